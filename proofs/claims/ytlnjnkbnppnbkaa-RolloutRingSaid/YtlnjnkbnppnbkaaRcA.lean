/- The document's cache: each function answers what its plain function says. -/
import Derived.Test.YtlnjnkbnppnbkaaOwnA
import Derived.Test.YtlnjnkbnppnbkaaSlObjC
namespace Go.Proofs.Ytlnjnkbnppnbkaa
open Go Go.RowKit
set_option linter.unusedVariables false
set_option linter.unusedSimpArgs false
def ecopyS (e : Ent) : Option (Ent) :=
 chk ((e.data).length ≤ 1099511627776) (letP (e.data) fun l1_2 => some (⟨e.fwd, e.back, e.line, e.used, e.dirty, l1_2⟩ : Ent))
noncomputable def C57 (p : List Nat) : Code := codeAt (bodyOf Try.f57) p
set_option maxRecDepth 100000 in
set_option maxHeartbeats 8000000 in
theorem ECopyF_tr {W0 : World} {Γ : List Asn} (ea : Option Addr) (ecap : Nat) (e : Ent) (hrea : Reads W0 Γ ea (ints e.data)) (y : Ent) (H : ecopyS e = some y) : Tr Try.prog 57 #[.agg #[.int .i64 e.fwd, .int .i64 e.back, .int .i64 e.line, .int .i64 e.used, .bool e.dirty, .slice ea (List.length e.data) ecap]] W0 (Γ) (fun r Δ => ∃ (a0_0 : Option Addr) (c0_0 : Nat), r = .agg #[.int .i64 y.fwd, .int .i64 y.back, .int .i64 y.line, .int .i64 y.used, .bool y.dirty, .slice a0_0 (List.length y.data) c0_0] ∧ Δ = (IntsA a0_0 c0_0 y.data) :: Γ) := by
 unfold ecopyS at H
 refine Tr.enter (fn := Try.f57) (c := C57 []) (args := [.agg #[.int .i64 e.fwd, .int .i64 e.back, .int .i64 e.line, .int .i64 e.used, .bool e.dirty, .slice ea (List.length e.data) ecap]]) 8 Try.func57 (by kernel_rfl) (by kernel_rfl) ?_
 refine ae [(0, .agg #[.int .i64 e.fwd, .int .i64 e.back, .int .i64 e.line, .int .i64 e.used, .bool e.dirty, .slice ea (List.length e.data) ecap])] ?_
 refine aq (x := C57 [0]) (y := C57 [1]) ?_
 refine ar (id := 0) 2 ?_
 refine s_step 1 (by kernel_rfl) (by kernel_rfl) (st_new (T := 67) (cells := #[.int .i64 e.fwd, .int .i64 e.back, .int .i64 e.line, .int .i64 e.used, .bool e.dirty, .slice ea (List.length e.data) ecap]) (fun a => .pointer (some a)) (fun _ => by kernel_rfl)) ?_
 rintro _ _ ⟨b0_0, rfl, rfl⟩
 refine s_step 2 (by kernel_rfl) (by kernel_rfl) (st_new (T := 67) (cells := #[.int .i64 (0), .int .i64 (0), .int .i64 (0), .int .i64 (0), .bool false, .slice none 0 0]) (fun a => .pointer (some a)) (fun _ => by kernel_rfl)) ?_
 rintro _ _ ⟨b0_1, rfl, rfl⟩
 refine ops_end ?_
 refine ae [(1, .pointer (some ⟨b0_0, 0, none⟩)), (2, .pointer (some ⟨b0_1, 0, none⟩))] ?_
 refine at_then_normal ?_
 refine aq (x := C57 [1,0]) (y := C57 [1,1]) ?_
 refine ar (id := 1) 5 ?_
 refine sp 3 (.pointer (some ⟨b0_0, 5, none⟩)) ?_
 refine sl 4 (.slice ea (List.length e.data) ecap) (load1 (off := 5) (fun _ => by kernel_rfl) (holds_own (.there .here)) (by kernel_rfl)) ?_
 obtain ⟨hc1_2_0, H⟩ := chkE H
 obtain ⟨l1_2, hl1_2, H⟩ := letE H
 refine s_step 5 (by kernel_rfl) (by kernel_rfl) (StepTo.conv (fun w hw => RowsA.none_mk (k := 1) (a := none) hw) (st_append_ints (xs := ([] : List Int)) (ys := e.data) (zs := l1_2) (m1 := 0) (m2 := (List.length e.data)) (m := List.length l1_2) (cap2 := ecap) 30 30 3 (tinfo 3) (fun _ => by kernel_rfl) (by kernel_rfl) (by kernel_rfl) (by kernel_rfl) (by kernel_rfl) (by kernel_rfl) .here (Reads.conv (fun w hw => hw.less (.drop .here (.drop .here (.drop .here .refl)))) hrea) (by first | rfl | simp) (by first | rfl | simp) (by rw [← hl1_2]; first | done | simp) (by rw [← hl1_2]; first | done | simp) (by rw [← hl1_2]; exact hc1_2_0))) ?_
 rintro _ _ ⟨a1_2, c1_2, rfl, rfl⟩
 refine sp 6 (.pointer (some ⟨b0_0, 5, none⟩)) ?_
 refine s_do (by kernel_rfl) (by kernel_rfl) (st_store (off := 5) (vs := [.slice a1_2 (List.length l1_2) c1_2]) (c' := #[.int .i64 e.fwd, .int .i64 e.back, .int .i64 e.line, .int .i64 e.used, .bool e.dirty, .slice a1_2 (List.length l1_2) c1_2]) (fun _ => by kernel_rfl) (.there (.there .here)) (by kernel_rfl) (by kernel_rfl) (by kernel_rfl)) ?_
 rintro _ _ ⟨rfl, rfl⟩
 refine ops_end ?_
 refine ae [(1, .pointer (some ⟨b0_0, 0, none⟩)), (2, .pointer (some ⟨b0_1, 0, none⟩))] ?_
 refine at_then_normal ?_
 refine aq (x := C57 [1,1,0]) (y := C57 [1,1,1]) ?_
 refine ar (id := 2) 2 ?_
 refine sl 7 (.agg #[.int .i64 e.fwd, .int .i64 e.back, .int .i64 e.line, .int .i64 e.used, .bool e.dirty, .slice a1_2 (List.length l1_2) c1_2]) (loadN (off := 0) (vs := [.int .i64 e.fwd, .int .i64 e.back, .int .i64 e.line, .int .i64 e.used, .bool e.dirty, .slice a1_2 (List.length l1_2) c1_2]) 6 (fun _ => by kernel_rfl) (holds_own .here) rfl (by exact ⟨rfl, rfl, rfl, rfl, rfl, rfl, trivial⟩)) ?_
 refine s_do (by kernel_rfl) (by kernel_rfl) (st_store (off := 0) (vs := [.int .i64 e.fwd, .int .i64 e.back, .int .i64 e.line, .int .i64 e.used, .bool e.dirty, .slice a1_2 (List.length l1_2) c1_2]) (c' := #[.int .i64 e.fwd, .int .i64 e.back, .int .i64 e.line, .int .i64 e.used, .bool e.dirty, .slice a1_2 (List.length l1_2) c1_2]) (fun _ => by kernel_rfl) (.there (.there .here)) (by kernel_rfl) (by kernel_rfl) (by kernel_rfl)) ?_
 rintro _ _ ⟨rfl, rfl⟩
 refine ops_end ?_
 refine ae [(2, .pointer (some ⟨b0_1, 0, none⟩))] ?_
 refine at_then_normal ?_
 refine at_ret (by kernel_rfl) ?_
 obtain rfl := someE H
 refine at_backR [.agg #[.int .i64 e.fwd, .int .i64 e.back, .int .i64 e.line, .int .i64 e.used, .bool e.dirty, .slice a1_2 (List.length l1_2) c1_2]] ((IntsA a1_2 c1_2 l1_2) :: Γ) (rs := [.cell 2 67]) (by kernel_rfl) (.cons (.cell (by kernel_rfl) (retN (off := 0) (vs := [.int .i64 e.fwd, .int .i64 e.back, .int .i64 e.line, .int .i64 e.used, .bool e.dirty, .slice a1_2 (List.length l1_2) c1_2]) 6 (fun _ => by kernel_rfl) (holds_own .here) rfl (by exact ⟨rfl, rfl, rfl, rfl, rfl, rfl, trivial⟩))) .nil) (fun w hw => (Sat.less (.take (.there (.there .here)) (.drop .here (.drop .here .refl))) hw)) ?_
 exact ⟨a1_2, c1_2, rfl, rfl⟩
def rnewcS (sets : Int) (ways : Int) : Option (CacheS) :=
 letP (if sets < (1 : Int) then (1 : Int) else sets) fun u1_1 => letP (if ways < (1 : Int) then (1 : Int) else ways) fun u1_3 => some ({ sets := u1_1, ways := u1_3, clock := (0 : Int), l := ([] : List Ent) } : CacheS)
noncomputable def C35 (p : List Nat) : Code := codeAt (bodyOf Try.f35) p
set_option maxRecDepth 100000 in
set_option maxHeartbeats 8000000 in
theorem RNewCF_tr {W0 : World} {Γ : List Asn} (sets : Int) (ways : Int)  (y : CacheS) (H : rnewcS sets ways = some y) : Tr Try.prog 35 #[.int .i64 sets, .int .i64 ways] W0 (Γ) (fun r Δ => ∃ (b0 : Nat), r = .pointer (some ⟨b0, 0, none⟩) ∧ Δ = (RChA b0 y) :: Γ) := by
 unfold rnewcS at H
 refine Tr.enter (fn := Try.f35) (c := C35 []) (args := [.int .i64 sets, .int .i64 ways]) 11 Try.func35 (by kernel_rfl) (by kernel_rfl) ?_
 refine ae [(0, .int .i64 sets), (1, .int .i64 ways)] ?_
 refine aq (x := C35 [0]) (y := C35 [1]) ?_
 refine ar (id := 0) 1 ?_
 refine sp 4 (.pointer none) ?_
 refine ops_end ?_
 refine ae [(0, .int .i64 sets), (1, .int .i64 ways)] ?_
 refine at_then_normal ?_
 refine aq (x := C35 [1,0]) (y := C35 [1,1]) ?_
 refine ar (id := 1) 7 ?_
 refine sp 5 (.int .i64 sets) ?_
 obtain ⟨u1_1, hu1_1, H⟩ := letE H
 refine sr 6 (.int .i64 u1_1) (run_eq (v := .int .i64 (if sets < (1 : Int) then (1 : Int) else sets)) (run_eq (v := .int .i64 (if sets < (1 : Int) then (1 : Int) else sets)) (fun _ => by kernel_rfl) rfl) (by rw [hu1_1])) ?_
 refine sp 7 (.int .i64 ways) ?_
 obtain ⟨u1_3, hu1_3, H⟩ := letE H
 refine sr 8 (.int .i64 u1_3) (run_eq (v := .int .i64 (if ways < (1 : Int) then (1 : Int) else ways)) (run_eq (v := .int .i64 (if ways < (1 : Int) then (1 : Int) else ways)) (fun _ => by kernel_rfl) rfl) (by rw [hu1_3])) ?_
 refine sp 9 (.agg #[.int .i64 u1_1, .int .i64 u1_3, .int .i64 (0), .slice none 0 0]) ?_
 refine s_step 10 (by kernel_rfl) (by kernel_rfl) (st_new (T := 83) (cells := #[.int .i64 u1_1, .int .i64 u1_3, .int .i64 (0), .slice none 0 0]) (fun a => .pointer (some a)) (fun _ => by kernel_rfl)) ?_
 rintro _ _ ⟨b1_5, rfl, rfl⟩
 refine sp 4 (.pointer (some ⟨b1_5, 0, none⟩)) ?_
 refine ops_end ?_
 refine ae [(4, .pointer (some ⟨b1_5, 0, none⟩))] ?_
 refine at_then_normal ?_
 refine at_ret (by kernel_rfl) ?_
 refine At.conv (Γ' := (RChXA b1_5 (⟨none, 0, ([] : List (List Value)), 83⟩ : RChXP) ({ sets := u1_1, ways := u1_3, clock := (0 : Int), l := ([] : List Ent) } : CacheS)) :: Γ) (fun w hw => RChXA.close (x := (⟨none, 0, ([] : List (List Value)), 83⟩ : RChXP)) (t := ({ sets := u1_1, ways := u1_3, clock := (0 : Int), l := ([] : List Ent) } : CacheS)) (Sat.less (.take (.there .here) (.take .here .refl)) (RecsX.nil (α := Ent) (a := none) hw))) ?_
 refine At.conv (Γ' := (RChA b1_5 ({ sets := u1_1, ways := u1_3, clock := (0 : Int), l := ([] : List Ent) } : CacheS)) :: Γ) (fun w hw => RChXA.shut (hw.pull .here)) ?_
 obtain rfl := someE H
 refine at_backR [.pointer (some ⟨b1_5, 0, none⟩)] ((RChA b1_5 ({ sets := u1_1, ways := u1_3, clock := (0 : Int), l := ([] : List Ent) } : CacheS)) :: Γ) (rs := [.tmp 4]) (by kernel_rfl) (.cons (.tmp (by kernel_rfl)) .nil) (fun w hw => (Sat.less (.take .here .refl) hw)) ?_
 exact ⟨b1_5, rfl, rfl⟩
def ratS_k0 (e0_11 : Int) : Option (Int) :=
 some ((-1) : Int)
def ratS_l0 (cc : CacheS) (line : Int) (k0 : Int → Option (Int)) : Nat → Int → Option (Int)
 | 0 => fun _ => none
 | m + 1 => fun v0_11 => (bif decide (v0_11 < (((List.length cc.l) : Nat) : Int)) then chk (0 ≤ v0_11 ∧ v0_11 < ((List.length cc.l : Nat) : Int)) ((bif decide (((nthT cc.l v0_11).line) = line) then some v0_11 else chk (inR (v0_11 + (1 : Int))) ((ratS_l0 cc line k0 m) (v0_11 + (1 : Int))))) else k0 v0_11)
def ratS (cc : CacheS) (line : Int) : Option (Int) :=
 ratS_l0 cc line (ratS_k0 ) 64 0
noncomputable def C58 (p : List Nat) : Code := codeAt (bodyOf Try.f58) p
set_option maxRecDepth 100000 in
set_option maxHeartbeats 8000000 in
theorem RAtF_tr {W0 : World} {Γ : List Asn} (c : Nat) (cx : RChXP) (cc : CacheS) (line : Int)  (y : Int) (H : ratS cc line = some y) : Tr Try.prog 58 #[.pointer (some ⟨c, 0, none⟩), .int .i64 line] W0 ((RChXA c cx cc) :: Γ) (fun r Δ => r = .int .i64 y ∧ Δ = (RChXA c cx cc) :: Γ) := by
 unfold ratS at H
 refine Tr.enter (fn := Try.f58) (c := C58 []) (args := [.pointer (some ⟨c, 0, none⟩), .int .i64 line]) 26 Try.func58 (by kernel_rfl) (by kernel_rfl) ?_
 refine ae [(0, .pointer (some ⟨c, 0, none⟩)), (1, .int .i64 line)] ?_
 refine aq (x := C58 [0]) (y := C58 [1]) ?_
 refine ar (id := 0) 1 ?_
 refine sp 4 (.int .i64 (0)) ?_
 refine ops_end ?_
 refine ae [(0, .pointer (some ⟨c, 0, none⟩)), (1, .int .i64 line)] ?_
 refine at_then_normal ?_
 refine aq (x := C58 [1,0]) (y := C58 [1,1]) ?_
 refine aq (x := C58 [1,0,0]) (y := C58 [1,0,1]) ?_
 refine ar (id := 1) 6 ?_
 refine sp 6 (.pointer (some ⟨c, 0, none⟩)) ?_
 refine sp 7 (.pointer (some ⟨c, 0, none⟩)) ?_
 refine sp 8 (.pointer (some ⟨c, 3, none⟩)) ?_
 refine RChXA.open .here ?_
 refine sl 9 (.slice cx.a3 (List.length cc.l) cx.c3) (load1 (off := 3) (fun _ => by kernel_rfl) (holds_own .here) (by kernel_rfl)) ?_
 refine sp 10 (.int .i64 (((List.length cc.l) : Nat) : Int)) ?_
 refine sp 11 (.int .i64 (0)) ?_
 refine ops_end ?_
 refine ae [(0, .pointer (some ⟨c, 0, none⟩)), (1, .int .i64 line), (10, .int .i64 (((List.length cc.l) : Nat) : Int)), (11, .int .i64 (0))] ?_
 refine at_then_normal ?_
 refine at_block (i := 0) (x := C58 [1,0,1,0]) (by kernel_rfl) ?_
 refine At.conv (Γ' := (RChXA c cx cc) :: Γ) (fun w hw => RChXA.close (x := cx) (t := cc) (Sat.less (.take .here (.take .here .refl)) hw)) ?_
 refine At.conv (Γ' := (RChXA c cx cc) :: Γ) (fun w hw => (Sat.less (.take .here .refl) hw)) ?_
 refine at_loopR (x := C58 [1,0,1,0,0]) (fun mm ff ΔΔ => ∃ (fuel : Nat) (v0_11 : Int), ratS_l0 cc line (ratS_k0 ) fuel v0_11 = some y ∧ fuel = mm ∧ ff = [(0, .pointer (some ⟨c, 0, none⟩)), (1, .int .i64 line), (10, .int .i64 (((List.length cc.l) : Nat) : Int)), (11, .int .i64 v0_11)] ∧ (RChXA c cx cc) :: Γ = ΔΔ) (64) (by kernel_rfl) [(0, .pointer (some ⟨c, 0, none⟩)), (1, .int .i64 line), (10, .int .i64 (((List.length cc.l) : Nat) : Int)), (11, .int .i64 0)] ⟨by kernel_rfl, by kernel_rfl, by kernel_rfl, by kernel_rfl, trivial⟩ ⟨64, 0, H, rfl, rfl, rfl⟩ ?_
 rintro _ _ _ ⟨fuel1, v0_11, H, rfl, rfl, rfl⟩
 rcases fuel1 with _ | fuel1
 ·exact (noneE H).elim
 rw [ratS_l0] at H
 refine aq (x := C58 [1,0,1,0,0,0]) (y := C58 [1,0,1,0,0,1]) ?_
 refine ar (id := 2) 1 ?_
 refine sp 12 (.bool (decide (v0_11 < (((List.length cc.l) : Nat) : Int)))) ?_
 refine ops_end ?_
 refine ae [(0, .pointer (some ⟨c, 0, none⟩)), (1, .int .i64 line), (10, .int .i64 (((List.length cc.l) : Nat) : Int)), (11, .int .i64 v0_11), (12, .bool (decide (v0_11 < (((List.length cc.l) : Nat) : Int))))] ?_
 refine at_then_normal ?_
 refine aq (x := C58 [1,0,1,0,0,1,0]) (y := C58 [1,0,1,0,0,1,1]) ?_
 rcases Bool.eq_false_or_eq_true (decide (v0_11 < (((List.length cc.l) : Nat) : Int))) with h1 | h1
 ·replace H := bifT H h1
  refine at_true (t := decide (v0_11 < (((List.length cc.l) : Nat) : Int))) (x := C58 [1,0,1,0,0,1,0,0]) (y := C58 [1,0,1,0,0,1,0,1]) (o := .tmp 12) (by kernel_rfl) (by kernel_rfl) (by kernel_rfl) h1 ?_
  refine at_skip (by kernel_rfl) ?_
  refine at_then_normal ?_
  refine aq (x := C58 [1,0,1,0,0,1,1,0]) (y := C58 [1,0,1,0,0,1,1,1]) ?_
  refine at_block (i := 1) (x := C58 [1,0,1,0,0,1,1,0,0]) (by kernel_rfl) ?_
  refine aq (x := C58 [1,0,1,0,0,1,1,0,0,0]) (y := C58 [1,0,1,0,0,1,1,0,0,1]) ?_
  refine ar (id := 3) 2 ?_
  refine sp 13 (.int .i64 v0_11) ?_
  refine sp 5 (.int .i64 v0_11) ?_
  refine ops_end ?_
  refine ae [(0, .pointer (some ⟨c, 0, none⟩)), (1, .int .i64 line), (5, .int .i64 v0_11), (10, .int .i64 (((List.length cc.l) : Nat) : Int)), (11, .int .i64 v0_11)] ?_
  refine at_then_normal ?_
  refine aq (x := C58 [1,0,1,0,0,1,1,0,0,1,0]) (y := C58 [1,0,1,0,0,1,1,0,0,1,1]) ?_
  refine ar (id := 4) 10 ?_
  refine sp 14 (.pointer (some ⟨c, 0, none⟩)) ?_
  refine sp 15 (.pointer (some ⟨c, 0, none⟩)) ?_
  refine sp 16 (.pointer (some ⟨c, 3, none⟩)) ?_
  refine RChXA.open .here ?_
  refine sl 17 (.slice cx.a3 (List.length cc.l) cx.c3) (load1 (off := 3) (fun _ => by kernel_rfl) (holds_own .here) (by kernel_rfl)) ?_
  refine sp 18 (.int .i64 v0_11) ?_
  obtain ⟨hc4_5_0, H⟩ := chkE H
  refine rd_at (RecsX.rd (α := Ent) (.there .here)) (by have := hc4_5_0; omega) ?_
  intro bb1 oo1 ha1
  refine sr 19 (.pointer (some ⟨bb1, oo1 + (((v0_11).toNat) * 6 + 0), none⟩)) (index_at (t := 81) (sz := 6) (E := 67) (a := cx.a3) (m := (List.length cc.l)) (c := cx.c3) (b := bb1) (off := oo1) (i := (v0_11).toNat) (tinfo 67) (fun _ => by kernel_rfl) (by kernel_rfl) (by kernel_rfl) (by kernel_rfl) ha1 (idx_cast hc4_5_0) (idx_nat hc4_5_0) rfl) ?_
  refine sr 20 (.pointer (some ⟨bb1, oo1 + (((v0_11).toNat) * 6 + 2), none⟩)) (field_at (f := 2) (addr := ⟨bb1, oo1 + (((v0_11).toNat) * 6 + 0), none⟩) (fun _ => by kernel_rfl) rfl rfl) ?_
  refine sl 21 (.int .i64 ((nthT cc.l v0_11).line)) (load1_at (off := oo1 + ((v0_11).toNat * 6 + 2)) (v := .int .i64 ((nthT cc.l v0_11).line)) (fun _ => by kernel_rfl) rfl (rd_fld (RecsX.rd (α := Ent) (.there .here)) ha1 hc4_5_0 2 (fun _ _ => rfl))) ?_
  refine sp 22 (.int .i64 line) ?_
  refine sp 23 (.bool (decide (((nthT cc.l v0_11).line) = line))) ?_
  refine ops_end ?_
  refine ae [(0, .pointer (some ⟨c, 0, none⟩)), (1, .int .i64 line), (5, .int .i64 v0_11), (10, .int .i64 (((List.length cc.l) : Nat) : Int)), (11, .int .i64 v0_11), (23, .bool (decide (((nthT cc.l v0_11).line) = line)))] ?_
  refine at_then_normal ?_
  rcases Bool.eq_false_or_eq_true (decide (((nthT cc.l v0_11).line) = line)) with h2 | h2
  ·replace H := bifT H h2
   refine at_true (t := decide (((nthT cc.l v0_11).line) = line)) (x := C58 [1,0,1,0,0,1,1,0,0,1,1,0]) (y := C58 [1,0,1,0,0,1,1,0,0,1,1,1]) (o := .tmp 23) (by kernel_rfl) (by kernel_rfl) (by kernel_rfl) h2 ?_
   refine aq (x := C58 [1,0,1,0,0,1,1,0,0,1,1,0,0]) (y := C58 [1,0,1,0,0,1,1,0,0,1,1,0,1]) ?_
   refine ar (id := 5) 2 ?_
   refine sp 24 (.int .i64 v0_11) ?_
   refine sp 4 (.int .i64 v0_11) ?_
   refine ops_end ?_
   refine ae [(4, .int .i64 v0_11)] ?_
   refine at_then_normal ?_
   refine at_ret (by kernel_rfl) ?_
   refine at_in_ret ?_
   refine at_then_ret ?_
   refine at_then_ret ?_
   refine at_in_ret ?_
   refine at_then_ret ?_
   refine At.conv (Γ' := (RChXA c cx cc) :: Γ) (fun w hw => RChXA.close (x := cx) (t := cc) (Sat.less (.take .here (.take .here .refl)) hw)) ?_
   obtain rfl := someE H
   refine at_backR [.int .i64 v0_11] ((RChXA c cx cc) :: Γ) (rs := [.tmp 4]) (by kernel_rfl) (.cons (.tmp (by kernel_rfl)) .nil) (fun w hw => (Sat.less (.take .here .refl) hw)) ?_
   exact ⟨rfl, rfl⟩
  ·replace H := bifF H h2
   refine at_false (t := decide (((nthT cc.l v0_11).line) = line)) (x := C58 [1,0,1,0,0,1,1,0,0,1,1,0]) (y := C58 [1,0,1,0,0,1,1,0,0,1,1,1]) (o := .tmp 23) (by kernel_rfl) (by kernel_rfl) (by kernel_rfl) h2 ?_
   refine at_skip (by kernel_rfl) ?_
   refine at_in_normal ?_
   refine at_then_normal ?_
   refine ar (id := 6) 2 ?_
   obtain ⟨hc6_0_0, H⟩ := chkE H
   refine sr 25 (.int .i64 (v0_11 + (1 : Int))) (run_eq (v := .int .i64 (IntKind.i64.wrap (v0_11 + (1 : Int)))) (fun _ => by kernel_rfl) (by rw [inR.wrap hc6_0_0])) ?_
   refine sp 11 (.int .i64 (v0_11 + (1 : Int))) ?_
   refine ops_end ?_
   refine ae [(0, .pointer (some ⟨c, 0, none⟩)), (1, .int .i64 line), (10, .int .i64 (((List.length cc.l) : Nat) : Int)), (11, .int .i64 (v0_11 + (1 : Int)))] ?_
   refine at_round_normal ?_
   refine At.conv (Γ' := (RChXA c cx cc) :: Γ) (fun w hw => RChXA.close (x := cx) (t := cc) (Sat.less (.take .here (.take .here .refl)) hw)) ?_
   exact at_roundR fuel1 [(0, .pointer (some ⟨c, 0, none⟩)), (1, .int .i64 line), (10, .int .i64 (((List.length cc.l) : Nat) : Int)), (11, .int .i64 (v0_11 + (1 : Int)))] ((RChXA c cx cc) :: Γ) (Nat.lt_succ_self _) ⟨by kernel_rfl, by kernel_rfl, by kernel_rfl, by kernel_rfl, trivial⟩ (fun w hw => (Sat.less (.take .here .refl) hw)) ⟨fuel1, v0_11 + (1 : Int), H, rfl, rfl, rfl⟩
 ·replace H := bifF H h1
  refine at_false (t := decide (v0_11 < (((List.length cc.l) : Nat) : Int))) (x := C58 [1,0,1,0,0,1,0,0]) (y := C58 [1,0,1,0,0,1,0,1]) (o := .tmp 12) (by kernel_rfl) (by kernel_rfl) (by kernel_rfl) h1 ?_
  refine at_exit (i := 0) (by kernel_rfl) ?_
  refine at_then_exit ?_
  refine at_then_exit ?_
  rw [ratS_k0] at H
  refine ae [(0, .pointer (some ⟨c, 0, none⟩)), (1, .int .i64 line), (10, .int .i64 (((List.length cc.l) : Nat) : Int)), (11, .int .i64 v0_11)] ?_
  refine At.conv (Γ' := (RChXA c cx cc) :: Γ) (fun w hw => (Sat.less (.take .here .refl) hw)) ?_
  refine at_in_here ?_
  refine at_then_normal ?_
  refine aq (x := C58 [1,1,0]) (y := C58 [1,1,1]) ?_
  refine ar (id := 7) 1 ?_
  refine sp 4 (.int .i64 (-1)) ?_
  refine ops_end ?_
  refine ae [(4, .int .i64 (-1))] ?_
  refine at_then_normal ?_
  refine at_ret (by kernel_rfl) ?_
  obtain rfl := someE H
  refine at_backR [.int .i64 (-1)] ((RChXA c cx cc) :: Γ) (rs := [.tmp 4]) (by kernel_rfl) (.cons (.tmp (by kernel_rfl)) .nil) (fun w hw => (Sat.less (.take .here .refl) hw)) ?_
  exact ⟨rfl, rfl⟩
def rinS_k0 (e0_5 : Int) (e0_13 : Int) : Option (Int) :=
 some e0_5
def rinS_l0 (cc : CacheS) (line : Int) (k0 : Int → Int → Option (Int)) : Nat → Int → Int → Option (Int)
 | 0 => fun _ _ => none
 | m + 1 => fun v0_5 v0_13 => (bif decide (v0_13 < (((List.length cc.l) : Nat) : Int)) then chk (0 ≤ v0_13 ∧ v0_13 < ((List.length cc.l : Nat) : Int)) (letP (nthT cc.l v0_13) fun x4_1 => (bif decide ((0 : Int) ≤ line) then chk (1 ≤ cc.sets) (chk (1 ≤ cc.sets) ((bif decide ((x4_1.line.tmod cc.sets) = (line.tmod cc.sets)) then chk (inR (v0_5 + (1 : Int))) (chk (inR (v0_13 + (1 : Int))) ((rinS_l0 cc line k0 m) (v0_5 + (1 : Int)) (v0_13 + (1 : Int)))) else chk (inR (v0_13 + (1 : Int))) ((rinS_l0 cc line k0 m) v0_5 (v0_13 + (1 : Int)))))) else chk (inR (v0_13 + (1 : Int))) ((rinS_l0 cc line k0 m) v0_5 (v0_13 + (1 : Int))))) else k0 v0_5 v0_13)
def rinS (cc : CacheS) (line : Int) : Option (Int) :=
 rinS_l0 cc line (rinS_k0 ) 64 0 0
noncomputable def C59 (p : List Nat) : Code := codeAt (bodyOf Try.f59) p
set_option maxRecDepth 100000 in
set_option maxHeartbeats 8000000 in
theorem RInF_tr {W0 : World} {Γ : List Asn} (c : Nat) (cx : RChXP) (cc : CacheS) (line : Int)  (y : Int) (H : rinS cc line = some y) : Tr Try.prog 59 #[.pointer (some ⟨c, 0, none⟩), .int .i64 line] W0 ((RChXA c cx cc) :: Γ) (fun r Δ => r = .int .i64 y ∧ Δ = (RChXA c cx cc) :: Γ) := by
 unfold rinS at H
 refine Tr.enter (fn := Try.f59) (c := C59 []) (args := [.pointer (some ⟨c, 0, none⟩), .int .i64 line]) 39 Try.func59 (by kernel_rfl) (by kernel_rfl) ?_
 refine ae [(0, .pointer (some ⟨c, 0, none⟩)), (1, .int .i64 line)] ?_
 refine aq (x := C59 [0]) (y := C59 [1]) ?_
 refine ar (id := 0) 1 ?_
 refine sp 4 (.int .i64 (0)) ?_
 refine ops_end ?_
 refine ae [(0, .pointer (some ⟨c, 0, none⟩)), (1, .int .i64 line)] ?_
 refine at_then_normal ?_
 refine aq (x := C59 [1,0]) (y := C59 [1,1]) ?_
 refine ar (id := 1) 1 ?_
 refine sp 5 (.int .i64 (0)) ?_
 refine ops_end ?_
 refine ae [(0, .pointer (some ⟨c, 0, none⟩)), (1, .int .i64 line), (5, .int .i64 (0))] ?_
 refine at_then_normal ?_
 refine aq (x := C59 [1,1,0]) (y := C59 [1,1,1]) ?_
 refine aq (x := C59 [1,1,0,0]) (y := C59 [1,1,0,1]) ?_
 refine ar (id := 2) 6 ?_
 refine sp 8 (.pointer (some ⟨c, 0, none⟩)) ?_
 refine sp 9 (.pointer (some ⟨c, 0, none⟩)) ?_
 refine sp 10 (.pointer (some ⟨c, 3, none⟩)) ?_
 refine RChXA.open .here ?_
 refine sl 11 (.slice cx.a3 (List.length cc.l) cx.c3) (load1 (off := 3) (fun _ => by kernel_rfl) (holds_own .here) (by kernel_rfl)) ?_
 refine sp 12 (.int .i64 (((List.length cc.l) : Nat) : Int)) ?_
 refine sp 13 (.int .i64 (0)) ?_
 refine ops_end ?_
 refine ae [(0, .pointer (some ⟨c, 0, none⟩)), (1, .int .i64 line), (5, .int .i64 (0)), (11, .slice cx.a3 (List.length cc.l) cx.c3), (12, .int .i64 (((List.length cc.l) : Nat) : Int)), (13, .int .i64 (0))] ?_
 refine at_then_normal ?_
 refine at_block (i := 0) (x := C59 [1,1,0,1,0]) (by kernel_rfl) ?_
 refine At.conv (Γ' := (RChXA c cx cc) :: Γ) (fun w hw => RChXA.close (x := cx) (t := cc) (Sat.less (.take .here (.take .here .refl)) hw)) ?_
 refine At.conv (Γ' := (RChXA c cx cc) :: Γ) (fun w hw => (Sat.less (.take .here .refl) hw)) ?_
 refine at_loopR (x := C59 [1,1,0,1,0,0]) (fun mm ff ΔΔ => ∃ (fuel : Nat) (v0_5 : Int) (v0_13 : Int), rinS_l0 cc line (rinS_k0 ) fuel v0_5 v0_13 = some y ∧ fuel = mm ∧ ff = [(0, .pointer (some ⟨c, 0, none⟩)), (1, .int .i64 line), (5, .int .i64 v0_5), (11, .slice cx.a3 (List.length cc.l) cx.c3), (12, .int .i64 (((List.length cc.l) : Nat) : Int)), (13, .int .i64 v0_13)] ∧ (RChXA c cx cc) :: Γ = ΔΔ) (64) (by kernel_rfl) [(0, .pointer (some ⟨c, 0, none⟩)), (1, .int .i64 line), (5, .int .i64 0), (11, .slice cx.a3 (List.length cc.l) cx.c3), (12, .int .i64 (((List.length cc.l) : Nat) : Int)), (13, .int .i64 0)] ⟨by kernel_rfl, by kernel_rfl, by kernel_rfl, by kernel_rfl, by kernel_rfl, by kernel_rfl, trivial⟩ ⟨64, 0, 0, H, rfl, rfl, rfl⟩ ?_
 rintro _ _ _ ⟨fuel1, v0_5, v0_13, H, rfl, rfl, rfl⟩
 rcases fuel1 with _ | fuel1
 ·exact (noneE H).elim
 rw [rinS_l0] at H
 refine aq (x := C59 [1,1,0,1,0,0,0]) (y := C59 [1,1,0,1,0,0,1]) ?_
 refine ar (id := 3) 1 ?_
 refine sp 14 (.bool (decide (v0_13 < (((List.length cc.l) : Nat) : Int)))) ?_
 refine ops_end ?_
 refine ae [(0, .pointer (some ⟨c, 0, none⟩)), (1, .int .i64 line), (5, .int .i64 v0_5), (11, .slice cx.a3 (List.length cc.l) cx.c3), (12, .int .i64 (((List.length cc.l) : Nat) : Int)), (13, .int .i64 v0_13), (14, .bool (decide (v0_13 < (((List.length cc.l) : Nat) : Int))))] ?_
 refine at_then_normal ?_
 refine aq (x := C59 [1,1,0,1,0,0,1,0]) (y := C59 [1,1,0,1,0,0,1,1]) ?_
 rcases Bool.eq_false_or_eq_true (decide (v0_13 < (((List.length cc.l) : Nat) : Int))) with h1 | h1
 ·replace H := bifT H h1
  refine at_true (t := decide (v0_13 < (((List.length cc.l) : Nat) : Int))) (x := C59 [1,1,0,1,0,0,1,0,0]) (y := C59 [1,1,0,1,0,0,1,0,1]) (o := .tmp 14) (by kernel_rfl) (by kernel_rfl) (by kernel_rfl) h1 ?_
  refine at_skip (by kernel_rfl) ?_
  refine at_then_normal ?_
  refine aq (x := C59 [1,1,0,1,0,0,1,1,0]) (y := C59 [1,1,0,1,0,0,1,1,1]) ?_
  refine at_block (i := 1) (x := C59 [1,1,0,1,0,0,1,1,0,0]) (by kernel_rfl) ?_
  refine aq (x := C59 [1,1,0,1,0,0,1,1,0,0,0]) (y := C59 [1,1,0,1,0,0,1,1,0,0,1]) ?_
  refine ar (id := 4) 4 ?_
  refine RChXA.open .here ?_
  obtain ⟨hc4_0_0, H⟩ := chkE H
  refine rd_at (RecsX.rd (α := Ent) (.there .here)) (by have := hc4_0_0; omega) ?_
  intro bb1 oo1 ha1
  refine sr 15 (.pointer (some ⟨bb1, oo1 + (((v0_13).toNat) * 6 + 0), none⟩)) (index_at (t := 81) (sz := 6) (E := 67) (a := cx.a3) (m := (List.length cc.l)) (c := cx.c3) (b := bb1) (off := oo1) (i := (v0_13).toNat) (tinfo 67) (fun _ => by kernel_rfl) (by kernel_rfl) (by kernel_rfl) (by kernel_rfl) ha1 (idx_cast hc4_0_0) (idx_nat hc4_0_0) rfl) ?_
  obtain ⟨x4_1, hx4_1, H⟩ := letE H
  refine rd_get (RecsX.rd (α := Ent) (.there .here)) hc4_0_0 ?_
  intro a4_1 c4_1 hrx4_1
  rw [hx4_1] at hrx4_1 ⊢
  refine sl 16 (.agg #[.int .i64 x4_1.fwd, .int .i64 x4_1.back, .int .i64 x4_1.line, .int .i64 x4_1.used, .bool x4_1.dirty, .slice a4_1 (List.length x4_1.data) c4_1]) (loadP_at (m := 6) (k := 6) (vs := [.int .i64 x4_1.fwd, .int .i64 x4_1.back, .int .i64 x4_1.line, .int .i64 x4_1.used, .bool x4_1.dirty, .slice a4_1 (List.length x4_1.data) c4_1]) (off := oo1) (i := (v0_13).toNat) (j := 0) (fun _ => by kernel_rfl) rfl rfl (fun q v hq => rd_row (j := 0 + q) (RecsX.rd (α := Ent) (.there (.there .here))) ha1 hrx4_1 (rowP (j := 0) (m := 6) (by kernel_rfl) hq))) ?_
  refine s_step 7 (by kernel_rfl) (by kernel_rfl) (st_new (T := 67) (cells := #[.int .i64 (0), .int .i64 (0), .int .i64 (0), .int .i64 (0), .bool false, .slice none 0 0]) (fun a => .pointer (some a)) (fun _ => by kernel_rfl)) ?_
  rintro _ _ ⟨b4_2, rfl, rfl⟩
  refine s_do (by kernel_rfl) (by kernel_rfl) (st_store (off := 0) (vs := [.int .i64 x4_1.fwd, .int .i64 x4_1.back, .int .i64 x4_1.line, .int .i64 x4_1.used, .bool x4_1.dirty, .slice a4_1 (List.length x4_1.data) c4_1]) (c' := #[.int .i64 x4_1.fwd, .int .i64 x4_1.back, .int .i64 x4_1.line, .int .i64 x4_1.used, .bool x4_1.dirty, .slice a4_1 (List.length x4_1.data) c4_1]) (fun _ => by kernel_rfl) .here (by kernel_rfl) (by kernel_rfl) (by kernel_rfl)) ?_
  rintro _ _ ⟨rfl, rfl⟩
  refine ops_end ?_
  refine ae [(0, .pointer (some ⟨c, 0, none⟩)), (1, .int .i64 line), (5, .int .i64 v0_5), (7, .pointer (some ⟨b4_2, 0, none⟩)), (11, .slice cx.a3 (List.length cc.l) cx.c3), (12, .int .i64 (((List.length cc.l) : Nat) : Int)), (13, .int .i64 v0_13)] ?_
  refine at_then_normal ?_
  refine aq (x := C59 [1,1,0,1,0,0,1,1,0,0,1,0]) (y := C59 [1,1,0,1,0,0,1,1,0,0,1,1]) ?_
  refine at_region_draw (id := 5) (by kernel_rfl) (by kernel_rfl) ?_
  refine dp 0 17 (.int .i64 line) ?_
  refine dp 1 18 (.bool (decide ((0 : Int) ≤ line))) ?_
  rcases Bool.eq_false_or_eq_true (decide ((0 : Int) ≤ line)) with h2 | h2
  ·replace H := bifT H h2
   refine d_pure 2 19 (.bool true) (by kernel_rfl) (by kernel_rfl) (by kernel_rfl) (run_eq (v := .bool (decide ((0 : Int) ≤ line))) (fun _ => by kernel_rfl) (congrArg Value.bool h2)) ?_
   refine dp 3 20 (.pointer (some ⟨b4_2, 2, none⟩)) ?_
   refine dl 4 21 (.int .i64 x4_1.line) (load1 (off := 2) (fun _ => by kernel_rfl) (holds_own .here) (by kernel_rfl)) ?_
   refine dp 5 22 (.pointer (some ⟨c, 0, none⟩)) ?_
   refine dp 6 23 (.pointer (some ⟨c, 0, none⟩)) ?_
   refine dp 7 24 (.pointer (some ⟨c, 0, none⟩)) ?_
   refine dl 8 25 (.int .i64 cc.sets) (load1 (off := 0) (fun _ => by kernel_rfl) (holds_own (.there (.there .here))) (by kernel_rfl)) ?_
   obtain ⟨hc5_9_0, H⟩ := chkE H
   refine d_pure 9 26 (.int .i64 (x4_1.line.tmod cc.sets)) (by kernel_rfl) (by kernel_rfl) (by kernel_rfl) (run_remP (a := x4_1.line) (b := cc.sets) (fun _ => by kernel_rfl) hc5_9_0) ?_
   refine dp 10 27 (.int .i64 line) ?_
   refine dp 11 28 (.pointer (some ⟨c, 0, none⟩)) ?_
   refine dp 12 29 (.pointer (some ⟨c, 0, none⟩)) ?_
   refine dp 13 30 (.pointer (some ⟨c, 0, none⟩)) ?_
   refine dl 14 31 (.int .i64 cc.sets) (load1 (off := 0) (fun _ => by kernel_rfl) (holds_own (.there (.there .here))) (by kernel_rfl)) ?_
   obtain ⟨hc5_15_0, H⟩ := chkE H
   refine d_pure 15 32 (.int .i64 (line.tmod cc.sets)) (by kernel_rfl) (by kernel_rfl) (by kernel_rfl) (run_remP (a := line) (b := cc.sets) (fun _ => by kernel_rfl) hc5_15_0) ?_
   refine dp 16 33 (.bool (decide ((x4_1.line.tmod cc.sets) = (line.tmod cc.sets)))) ?_
   refine dp 17 34 (.bool (decide ((x4_1.line.tmod cc.sets) = (line.tmod cc.sets)))) ?_
   refine draw_end (by kernel_rfl) ?_
   refine ae [(0, .pointer (some ⟨c, 0, none⟩)), (1, .int .i64 line), (5, .int .i64 v0_5), (11, .slice cx.a3 (List.length cc.l) cx.c3), (12, .int .i64 (((List.length cc.l) : Nat) : Int)), (13, .int .i64 v0_13), (34, .bool (decide ((x4_1.line.tmod cc.sets) = (line.tmod cc.sets))))] ?_
   refine at_then_normal ?_
   rcases Bool.eq_false_or_eq_true (decide ((x4_1.line.tmod cc.sets) = (line.tmod cc.sets))) with h3 | h3
   ·replace H := bifT H h3
    refine at_true (t := decide ((x4_1.line.tmod cc.sets) = (line.tmod cc.sets))) (x := C59 [1,1,0,1,0,0,1,1,0,0,1,1,0]) (y := C59 [1,1,0,1,0,0,1,1,0,0,1,1,1]) (o := .tmp 34) (by kernel_rfl) (by kernel_rfl) (by kernel_rfl) h3 ?_
    refine ar (id := 6) 3 ?_
    refine sp 35 (.int .i64 v0_5) ?_
    obtain ⟨hc6_1_0, H⟩ := chkE H
    refine sr 36 (.int .i64 (v0_5 + (1 : Int))) (run_eq (v := .int .i64 (IntKind.i64.wrap (v0_5 + (1 : Int)))) (fun _ => by kernel_rfl) (by rw [inR.wrap hc6_1_0])) ?_
    refine sp 5 (.int .i64 (v0_5 + (1 : Int))) ?_
    refine ops_end ?_
    refine ae [(0, .pointer (some ⟨c, 0, none⟩)), (1, .int .i64 line), (5, .int .i64 (v0_5 + (1 : Int))), (11, .slice cx.a3 (List.length cc.l) cx.c3), (12, .int .i64 (((List.length cc.l) : Nat) : Int)), (13, .int .i64 v0_13)] ?_
    refine at_in_normal ?_
    refine at_then_normal ?_
    refine ar (id := 7) 2 ?_
    obtain ⟨hc7_0_0, H⟩ := chkE H
    refine sr 37 (.int .i64 (v0_13 + (1 : Int))) (run_eq (v := .int .i64 (IntKind.i64.wrap (v0_13 + (1 : Int)))) (fun _ => by kernel_rfl) (by rw [inR.wrap hc7_0_0])) ?_
    refine sp 13 (.int .i64 (v0_13 + (1 : Int))) ?_
    refine ops_end ?_
    refine ae [(0, .pointer (some ⟨c, 0, none⟩)), (1, .int .i64 line), (5, .int .i64 (v0_5 + (1 : Int))), (11, .slice cx.a3 (List.length cc.l) cx.c3), (12, .int .i64 (((List.length cc.l) : Nat) : Int)), (13, .int .i64 (v0_13 + (1 : Int)))] ?_
    refine at_round_normal ?_
    refine At.conv (Γ' := (RChXA c cx cc) :: (Asn.own b4_2 (.cells #[.int .i64 x4_1.fwd, .int .i64 x4_1.back, .int .i64 x4_1.line, .int .i64 x4_1.used, .bool x4_1.dirty, .slice a4_1 (List.length x4_1.data) c4_1] 67 (0, 0))) :: (ImmI a4_1 x4_1.data) :: Γ) (fun w hw => RChXA.close (x := cx) (t := cc) (Sat.less (.take (.there (.there .here)) (.take (.there (.there .here)) (.take .here (.take .here .refl)))) hw)) ?_
    exact at_roundR fuel1 [(0, .pointer (some ⟨c, 0, none⟩)), (1, .int .i64 line), (5, .int .i64 (v0_5 + (1 : Int))), (11, .slice cx.a3 (List.length cc.l) cx.c3), (12, .int .i64 (((List.length cc.l) : Nat) : Int)), (13, .int .i64 (v0_13 + (1 : Int)))] ((RChXA c cx cc) :: Γ) (Nat.lt_succ_self _) ⟨by kernel_rfl, by kernel_rfl, by kernel_rfl, by kernel_rfl, by kernel_rfl, by kernel_rfl, trivial⟩ (fun w hw => (Sat.less (.take .here (.drop .here (.drop .here .refl))) hw)) ⟨fuel1, v0_5 + (1 : Int), v0_13 + (1 : Int), H, rfl, rfl, rfl⟩
   ·replace H := bifF H h3
    refine at_false (t := decide ((x4_1.line.tmod cc.sets) = (line.tmod cc.sets))) (x := C59 [1,1,0,1,0,0,1,1,0,0,1,1,0]) (y := C59 [1,1,0,1,0,0,1,1,0,0,1,1,1]) (o := .tmp 34) (by kernel_rfl) (by kernel_rfl) (by kernel_rfl) h3 ?_
    refine at_skip (by kernel_rfl) ?_
    refine at_in_normal ?_
    refine at_then_normal ?_
    refine ar (id := 7) 2 ?_
    obtain ⟨hc7_0_0, H⟩ := chkE H
    refine sr 37 (.int .i64 (v0_13 + (1 : Int))) (run_eq (v := .int .i64 (IntKind.i64.wrap (v0_13 + (1 : Int)))) (fun _ => by kernel_rfl) (by rw [inR.wrap hc7_0_0])) ?_
    refine sp 13 (.int .i64 (v0_13 + (1 : Int))) ?_
    refine ops_end ?_
    refine ae [(0, .pointer (some ⟨c, 0, none⟩)), (1, .int .i64 line), (5, .int .i64 v0_5), (11, .slice cx.a3 (List.length cc.l) cx.c3), (12, .int .i64 (((List.length cc.l) : Nat) : Int)), (13, .int .i64 (v0_13 + (1 : Int)))] ?_
    refine at_round_normal ?_
    refine At.conv (Γ' := (RChXA c cx cc) :: (Asn.own b4_2 (.cells #[.int .i64 x4_1.fwd, .int .i64 x4_1.back, .int .i64 x4_1.line, .int .i64 x4_1.used, .bool x4_1.dirty, .slice a4_1 (List.length x4_1.data) c4_1] 67 (0, 0))) :: (ImmI a4_1 x4_1.data) :: Γ) (fun w hw => RChXA.close (x := cx) (t := cc) (Sat.less (.take (.there (.there .here)) (.take (.there (.there .here)) (.take .here (.take .here .refl)))) hw)) ?_
    exact at_roundR fuel1 [(0, .pointer (some ⟨c, 0, none⟩)), (1, .int .i64 line), (5, .int .i64 v0_5), (11, .slice cx.a3 (List.length cc.l) cx.c3), (12, .int .i64 (((List.length cc.l) : Nat) : Int)), (13, .int .i64 (v0_13 + (1 : Int)))] ((RChXA c cx cc) :: Γ) (Nat.lt_succ_self _) ⟨by kernel_rfl, by kernel_rfl, by kernel_rfl, by kernel_rfl, by kernel_rfl, by kernel_rfl, trivial⟩ (fun w hw => (Sat.less (.take .here (.drop .here (.drop .here .refl))) hw)) ⟨fuel1, v0_5, v0_13 + (1 : Int), H, rfl, rfl, rfl⟩
  ·replace H := bifF H h2
   refine d_pure 2 19 (.bool false) (by kernel_rfl) (by kernel_rfl) (by kernel_rfl) (run_eq (v := .bool (decide ((0 : Int) ≤ line))) (fun _ => by kernel_rfl) (congrArg Value.bool h2)) ?_
   refine d_off 3 20 (by kernel_rfl) (by kernel_rfl) (by kernel_rfl) ?_
   refine d_off 4 21 (by kernel_rfl) (by kernel_rfl) (by kernel_rfl) ?_
   refine d_off 5 22 (by kernel_rfl) (by kernel_rfl) (by kernel_rfl) ?_
   refine d_off 6 23 (by kernel_rfl) (by kernel_rfl) (by kernel_rfl) ?_
   refine d_off 7 24 (by kernel_rfl) (by kernel_rfl) (by kernel_rfl) ?_
   refine d_off 8 25 (by kernel_rfl) (by kernel_rfl) (by kernel_rfl) ?_
   refine d_off 9 26 (by kernel_rfl) (by kernel_rfl) (by kernel_rfl) ?_
   refine d_off 10 27 (by kernel_rfl) (by kernel_rfl) (by kernel_rfl) ?_
   refine d_off 11 28 (by kernel_rfl) (by kernel_rfl) (by kernel_rfl) ?_
   refine d_off 12 29 (by kernel_rfl) (by kernel_rfl) (by kernel_rfl) ?_
   refine d_off 13 30 (by kernel_rfl) (by kernel_rfl) (by kernel_rfl) ?_
   refine d_off 14 31 (by kernel_rfl) (by kernel_rfl) (by kernel_rfl) ?_
   refine d_off 15 32 (by kernel_rfl) (by kernel_rfl) (by kernel_rfl) ?_
   refine d_off 16 33 (by kernel_rfl) (by kernel_rfl) (by kernel_rfl) ?_
   refine dp 17 34 (.bool false) ?_
   refine draw_end (by kernel_rfl) ?_
   refine ae [(0, .pointer (some ⟨c, 0, none⟩)), (1, .int .i64 line), (5, .int .i64 v0_5), (11, .slice cx.a3 (List.length cc.l) cx.c3), (12, .int .i64 (((List.length cc.l) : Nat) : Int)), (13, .int .i64 v0_13), (34, .bool false)] ?_
   refine at_then_normal ?_
   refine at_false (t := false) (x := C59 [1,1,0,1,0,0,1,1,0,0,1,1,0]) (y := C59 [1,1,0,1,0,0,1,1,0,0,1,1,1]) (o := .tmp 34) (by kernel_rfl) (by kernel_rfl) (by kernel_rfl) rfl ?_
   refine at_skip (by kernel_rfl) ?_
   refine at_in_normal ?_
   refine at_then_normal ?_
   refine ar (id := 7) 2 ?_
   obtain ⟨hc7_0_0, H⟩ := chkE H
   refine sr 37 (.int .i64 (v0_13 + (1 : Int))) (run_eq (v := .int .i64 (IntKind.i64.wrap (v0_13 + (1 : Int)))) (fun _ => by kernel_rfl) (by rw [inR.wrap hc7_0_0])) ?_
   refine sp 13 (.int .i64 (v0_13 + (1 : Int))) ?_
   refine ops_end ?_
   refine ae [(0, .pointer (some ⟨c, 0, none⟩)), (1, .int .i64 line), (5, .int .i64 v0_5), (11, .slice cx.a3 (List.length cc.l) cx.c3), (12, .int .i64 (((List.length cc.l) : Nat) : Int)), (13, .int .i64 (v0_13 + (1 : Int)))] ?_
   refine at_round_normal ?_
   refine At.conv (Γ' := (RChXA c cx cc) :: (Asn.own b4_2 (.cells #[.int .i64 x4_1.fwd, .int .i64 x4_1.back, .int .i64 x4_1.line, .int .i64 x4_1.used, .bool x4_1.dirty, .slice a4_1 (List.length x4_1.data) c4_1] 67 (0, 0))) :: (ImmI a4_1 x4_1.data) :: Γ) (fun w hw => RChXA.close (x := cx) (t := cc) (Sat.less (.take (.there (.there .here)) (.take (.there (.there .here)) (.take .here (.take .here .refl)))) hw)) ?_
   exact at_roundR fuel1 [(0, .pointer (some ⟨c, 0, none⟩)), (1, .int .i64 line), (5, .int .i64 v0_5), (11, .slice cx.a3 (List.length cc.l) cx.c3), (12, .int .i64 (((List.length cc.l) : Nat) : Int)), (13, .int .i64 (v0_13 + (1 : Int)))] ((RChXA c cx cc) :: Γ) (Nat.lt_succ_self _) ⟨by kernel_rfl, by kernel_rfl, by kernel_rfl, by kernel_rfl, by kernel_rfl, by kernel_rfl, trivial⟩ (fun w hw => (Sat.less (.take .here (.drop .here (.drop .here .refl))) hw)) ⟨fuel1, v0_5, v0_13 + (1 : Int), H, rfl, rfl, rfl⟩
 ·replace H := bifF H h1
  refine at_false (t := decide (v0_13 < (((List.length cc.l) : Nat) : Int))) (x := C59 [1,1,0,1,0,0,1,0,0]) (y := C59 [1,1,0,1,0,0,1,0,1]) (o := .tmp 14) (by kernel_rfl) (by kernel_rfl) (by kernel_rfl) h1 ?_
  refine at_exit (i := 0) (by kernel_rfl) ?_
  refine at_then_exit ?_
  refine at_then_exit ?_
  rw [rinS_k0] at H
  refine ae [(0, .pointer (some ⟨c, 0, none⟩)), (1, .int .i64 line), (5, .int .i64 v0_5), (11, .slice cx.a3 (List.length cc.l) cx.c3), (12, .int .i64 (((List.length cc.l) : Nat) : Int)), (13, .int .i64 v0_13)] ?_
  refine At.conv (Γ' := (RChXA c cx cc) :: Γ) (fun w hw => (Sat.less (.take .here .refl) hw)) ?_
  refine at_in_here ?_
  refine at_then_normal ?_
  refine aq (x := C59 [1,1,1,0]) (y := C59 [1,1,1,1]) ?_
  refine ar (id := 8) 2 ?_
  refine sp 38 (.int .i64 v0_5) ?_
  refine sp 4 (.int .i64 v0_5) ?_
  refine ops_end ?_
  refine ae [(4, .int .i64 v0_5)] ?_
  refine at_then_normal ?_
  refine at_ret (by kernel_rfl) ?_
  obtain rfl := someE H
  refine at_backR [.int .i64 v0_5] ((RChXA c cx cc) :: Γ) (rs := [.tmp 4]) (by kernel_rfl) (.cons (.tmp (by kernel_rfl)) .nil) (fun w hw => (Sat.less (.take .here .refl) hw)) ?_
  exact ⟨rfl, rfl⟩
def rputS_k0 (cc : CacheS) (y3_1 : Ent) (e0_6 : Int) : Option (Int × CacheS) :=
 chk (0 ≤ (0 : Int) ∧ (0 : Int) ≤ e0_6 ∧ e0_6 ≤ ((List.length cc.l : Nat) : Int) ∧ e0_6 ≤ e0_6 ∧ e0_6 ≤ ((List.length cc.l : Nat) : Int)) (letP ((cc.l.drop 0).take ((e0_6).toNat - 0)) fun l16_7 => chk (0 ≤ e0_6 ∧ e0_6 ≤ ((List.length cc.l : Nat) : Int) ∧ ((List.length cc.l : Nat) : Int) ≤ ((List.length cc.l : Nat) : Int)) (letP ((cc.l.drop (e0_6).toNat).take ((List.length cc.l) - (e0_6).toNat)) fun l16_15 => chk ((([(⟨y3_1.fwd, y3_1.back, y3_1.line, wr (cc.clock + (1 : Int)), y3_1.dirty, y3_1.data⟩ : Ent)]) ++ l16_15).length ≤ 1099511627776) (letP (([(⟨y3_1.fwd, y3_1.back, y3_1.line, wr (cc.clock + (1 : Int)), y3_1.dirty, y3_1.data⟩ : Ent)]) ++ l16_15) fun l16_16 => chk ((l16_7 ++ l16_16).length ≤ 1099511627776) (letP (l16_7 ++ l16_16) fun l16_17 => some ((0 : Int), ({ sets := cc.sets, ways := cc.ways, clock := wr (cc.clock + (1 : Int)), l := l16_17 } : CacheS))))))
def rputS_l0 (cc : CacheS) (y3_1 : Ent) (k0 : Int → Option (Int × CacheS)) : Nat → Int → Option (Int × CacheS)
 | 0 => fun _ => none
 | m + 1 => fun v0_6 => (bif decide ((0 : Int) < v0_6) then chk (inR (v0_6 - (1 : Int))) (chk (0 ≤ (v0_6 - (1 : Int)) ∧ (v0_6 - (1 : Int)) < ((List.length cc.l : Nat) : Int)) ((bif decide (y3_1.line < ((nthT cc.l (v0_6 - (1 : Int))).line)) then chk (inR (v0_6 - (1 : Int))) ((rputS_l0 cc y3_1 k0 m) (v0_6 - (1 : Int))) else k0 v0_6))) else k0 v0_6)
def rputS (cc : CacheS) (e : Ent) : Option (Int × CacheS) :=
 (bif decide (e.line < (0 : Int)) then some ((1 : Int), cc) else (ecopyS e).bind fun y3_1 => (ratS cc y3_1.line).bind fun y4_3 => (bif decide ((0 : Int) ≤ y4_3) then chk (0 ≤ y4_3 ∧ y4_3 < ((List.length cc.l : Nat) : Int)) (chk (0 ≤ y4_3 ∧ y4_3 < ((List.length cc.l : Nat) : Int)) (letP (List.set cc.l (y4_3).toNat (⟨y3_1.fwd, y3_1.back, y3_1.line, (nthT cc.l y4_3).used, y3_1.dirty, y3_1.data⟩ : Ent)) fun l7_7 => some ((0 : Int), ({ sets := cc.sets, ways := cc.ways, clock := cc.clock, l := l7_7 } : CacheS)))) else (rinS cc y3_1.line).bind fun y9_3 => (bif decide (cc.ways ≤ y9_3) then some ((5 : Int), cc) else rputS_l0 cc y3_1 (rputS_k0 cc y3_1) 64 (((List.length cc.l) : Nat) : Int))))
noncomputable def C36 (p : List Nat) : Code := codeAt (bodyOf Try.f36) p
set_option maxRecDepth 100000 in
set_option maxHeartbeats 8000000 in
theorem RPutF_tr {W0 : World} {Γ : List Asn} (c : Nat) (cc : CacheS) (ea : Option Addr) (ecap : Nat) (e : Ent) (hrea : Reads W0 Γ ea (ints e.data)) (y : Int × CacheS) (H : rputS cc e = some y) : Tr Try.prog 36 #[.pointer (some ⟨c, 0, none⟩), .agg #[.int .i64 e.fwd, .int .i64 e.back, .int .i64 e.line, .int .i64 e.used, .bool e.dirty, .slice ea (List.length e.data) ecap]] W0 ((RChA c cc) :: Γ) (fun r Δ => r = .int .i64 y.1 ∧ Δ = (RChA c y.2) :: Γ) := by
 unfold rputS at H
 refine Tr.enter (fn := Try.f36) (c := C36 []) (args := [.pointer (some ⟨c, 0, none⟩), .agg #[.int .i64 e.fwd, .int .i64 e.back, .int .i64 e.line, .int .i64 e.used, .bool e.dirty, .slice ea (List.length e.data) ecap]]) 98 Try.func36 (by kernel_rfl) (by kernel_rfl) ?_
 refine ae [(0, .pointer (some ⟨c, 0, none⟩)), (1, .agg #[.int .i64 e.fwd, .int .i64 e.back, .int .i64 e.line, .int .i64 e.used, .bool e.dirty, .slice ea (List.length e.data) ecap])] ?_
 refine aq (x := C36 [0]) (y := C36 [1]) ?_
 refine ar (id := 0) 2 ?_
 refine s_step 3 (by kernel_rfl) (by kernel_rfl) (st_new (T := 67) (cells := #[.int .i64 e.fwd, .int .i64 e.back, .int .i64 e.line, .int .i64 e.used, .bool e.dirty, .slice ea (List.length e.data) ecap]) (fun a => .pointer (some a)) (fun _ => by kernel_rfl)) ?_
 rintro _ _ ⟨b0_0, rfl, rfl⟩
 refine sp 4 (.int .i64 (0)) ?_
 refine ops_end ?_
 refine ae [(0, .pointer (some ⟨c, 0, none⟩)), (3, .pointer (some ⟨b0_0, 0, none⟩))] ?_
 refine at_then_normal ?_
 refine aq (x := C36 [1,0]) (y := C36 [1,1]) ?_
 refine aq (x := C36 [1,0,0]) (y := C36 [1,0,1]) ?_
 refine ar (id := 1) 3 ?_
 refine sp 7 (.pointer (some ⟨b0_0, 2, none⟩)) ?_
 refine sl 8 (.int .i64 e.line) (load1 (off := 2) (fun _ => by kernel_rfl) (holds_own .here) (by kernel_rfl)) ?_
 refine sp 9 (.bool (decide (e.line < (0 : Int)))) ?_
 refine ops_end ?_
 refine ae [(0, .pointer (some ⟨c, 0, none⟩)), (3, .pointer (some ⟨b0_0, 0, none⟩)), (9, .bool (decide (e.line < (0 : Int))))] ?_
 refine at_then_normal ?_
 rcases Bool.eq_false_or_eq_true (decide (e.line < (0 : Int))) with h1 | h1
 ·replace H := bifT H h1
  refine at_true (t := decide (e.line < (0 : Int))) (x := C36 [1,0,1,0]) (y := C36 [1,0,1,1]) (o := .tmp 9) (by kernel_rfl) (by kernel_rfl) (by kernel_rfl) h1 ?_
  refine aq (x := C36 [1,0,1,0,0]) (y := C36 [1,0,1,0,1]) ?_
  refine ar (id := 2) 1 ?_
  refine sp 4 (.int .i64 (1)) ?_
  refine ops_end ?_
  refine ae [(4, .int .i64 (1))] ?_
  refine at_then_normal ?_
  refine at_ret (by kernel_rfl) ?_
  refine at_then_ret ?_
  obtain rfl := someE H
  refine at_backR [.int .i64 (1)] ((RChA c cc) :: Γ) (rs := [.tmp 4]) (by kernel_rfl) (.cons (.tmp (by kernel_rfl)) .nil) (fun w hw => (Sat.less (.take (.there .here) (.drop .here .refl)) hw)) ?_
  exact ⟨rfl, rfl⟩
 ·replace H := bifF H h1
  refine at_false (t := decide (e.line < (0 : Int))) (x := C36 [1,0,1,0]) (y := C36 [1,0,1,1]) (o := .tmp 9) (by kernel_rfl) (by kernel_rfl) (by kernel_rfl) h1 ?_
  refine at_skip (by kernel_rfl) ?_
  refine at_then_normal ?_
  refine aq (x := C36 [1,1,0]) (y := C36 [1,1,1]) ?_
  refine ar (id := 3) 3 ?_
  refine sl 10 (.agg #[.int .i64 e.fwd, .int .i64 e.back, .int .i64 e.line, .int .i64 e.used, .bool e.dirty, .slice ea (List.length e.data) ecap]) (loadN (off := 0) (vs := [.int .i64 e.fwd, .int .i64 e.back, .int .i64 e.line, .int .i64 e.used, .bool e.dirty, .slice ea (List.length e.data) ecap]) 6 (fun _ => by kernel_rfl) (holds_own .here) rfl (by exact ⟨rfl, rfl, rfl, rfl, rfl, rfl, trivial⟩)) ?_
  obtain ⟨y3_1, hy3_1, H⟩ := bindE H
  refine s_call 11 57 #[.agg #[.int .i64 e.fwd, .int .i64 e.back, .int .i64 e.line, .int .i64 e.used, .bool e.dirty, .slice ea (List.length e.data) ecap]] (by kernel_rfl) (by kernel_rfl) (fun _ => by kernel_rfl) (ECopyF_tr ea ecap e (Reads.conv (fun w hw => hw.less (.drop .here (.drop .here .refl))) hrea) y3_1 hy3_1) ?_
  rintro _ _ ⟨a3_1_00, c3_1_00, rfl, rfl⟩
  refine s_do (by kernel_rfl) (by kernel_rfl) (st_store (off := 0) (vs := [.int .i64 y3_1.fwd, .int .i64 y3_1.back, .int .i64 y3_1.line, .int .i64 y3_1.used, .bool y3_1.dirty, .slice a3_1_00 (List.length y3_1.data) c3_1_00]) (c' := #[.int .i64 y3_1.fwd, .int .i64 y3_1.back, .int .i64 y3_1.line, .int .i64 y3_1.used, .bool y3_1.dirty, .slice a3_1_00 (List.length y3_1.data) c3_1_00]) (fun _ => by kernel_rfl) (.there .here) (by kernel_rfl) (by kernel_rfl) (by kernel_rfl)) ?_
  rintro _ _ ⟨rfl, rfl⟩
  refine ops_end ?_
  refine ae [(0, .pointer (some ⟨c, 0, none⟩)), (3, .pointer (some ⟨b0_0, 0, none⟩))] ?_
  refine at_then_normal ?_
  refine aq (x := C36 [1,1,1,0]) (y := C36 [1,1,1,1]) ?_
  refine aq (x := C36 [1,1,1,0,0]) (y := C36 [1,1,1,0,1]) ?_
  refine ar (id := 4) 5 ?_
  refine sp 12 (.pointer (some ⟨c, 0, none⟩)) ?_
  refine sp 13 (.pointer (some ⟨b0_0, 2, none⟩)) ?_
  refine sl 14 (.int .i64 y3_1.line) (load1 (off := 2) (fun _ => by kernel_rfl) (holds_own .here) (by kernel_rfl)) ?_
  refine RChA.tox (.there (.there .here)) ?_
  intro x4_3_c
  obtain ⟨y4_3, hy4_3, H⟩ := bindE H
  refine s_call 15 58 #[.pointer (some ⟨c, 0, none⟩), .int .i64 y3_1.line] (by kernel_rfl) (by kernel_rfl) (fun _ => by kernel_rfl) (RAtF_tr c x4_3_c cc y3_1.line y4_3 hy4_3) ?_
  rintro _ _ ⟨rfl, rfl⟩
  refine sp 5 (.int .i64 y4_3) ?_
  refine ops_end ?_
  refine ae [(0, .pointer (some ⟨c, 0, none⟩)), (3, .pointer (some ⟨b0_0, 0, none⟩)), (5, .int .i64 y4_3)] ?_
  refine at_then_normal ?_
  refine aq (x := C36 [1,1,1,0,1,0]) (y := C36 [1,1,1,0,1,1]) ?_
  refine ar (id := 5) 2 ?_
  refine sp 16 (.int .i64 y4_3) ?_
  refine sp 17 (.bool (decide ((0 : Int) ≤ y4_3))) ?_
  refine ops_end ?_
  refine ae [(0, .pointer (some ⟨c, 0, none⟩)), (3, .pointer (some ⟨b0_0, 0, none⟩)), (5, .int .i64 y4_3), (17, .bool (decide ((0 : Int) ≤ y4_3)))] ?_
  refine at_then_normal ?_
  rcases Bool.eq_false_or_eq_true (decide ((0 : Int) ≤ y4_3)) with h2 | h2
  ·replace H := bifT H h2
   refine at_true (t := decide ((0 : Int) ≤ y4_3)) (x := C36 [1,1,1,0,1,1,0]) (y := C36 [1,1,1,0,1,1,1]) (o := .tmp 17) (by kernel_rfl) (by kernel_rfl) (by kernel_rfl) h2 ?_
   refine aq (x := C36 [1,1,1,0,1,1,0,0]) (y := C36 [1,1,1,0,1,1,0,1]) ?_
   refine ar (id := 6) 10 ?_
   refine sp 18 (.pointer (some ⟨c, 0, none⟩)) ?_
   refine sp 19 (.pointer (some ⟨c, 0, none⟩)) ?_
   refine sp 20 (.pointer (some ⟨c, 3, none⟩)) ?_
   refine RChXA.open .here ?_
   refine sl 21 (.slice x4_3_c.a3 (List.length cc.l) x4_3_c.c3) (load1 (off := 3) (fun _ => by kernel_rfl) (holds_own .here) (by kernel_rfl)) ?_
   refine sp 22 (.int .i64 y4_3) ?_
   obtain ⟨hc6_5_0, H⟩ := chkE H
   refine rd_at (RecsX.rd (α := Ent) (.there .here)) (by have := hc6_5_0; omega) ?_
   intro bb1 oo1 ha1
   refine sr 23 (.pointer (some ⟨bb1, oo1 + (((y4_3).toNat) * 6 + 0), none⟩)) (index_at (t := 81) (sz := 6) (E := 67) (a := x4_3_c.a3) (m := (List.length cc.l)) (c := x4_3_c.c3) (b := bb1) (off := oo1) (i := (y4_3).toNat) (tinfo 67) (fun _ => by kernel_rfl) (by kernel_rfl) (by kernel_rfl) (by kernel_rfl) ha1 (idx_cast hc6_5_0) (idx_nat hc6_5_0) rfl) ?_
   refine sr 24 (.pointer (some ⟨bb1, oo1 + (((y4_3).toNat) * 6 + 3), none⟩)) (field_at (f := 3) (addr := ⟨bb1, oo1 + (((y4_3).toNat) * 6 + 0), none⟩) (fun _ => by kernel_rfl) rfl rfl) ?_
   refine sl 25 (.int .i64 ((nthT cc.l y4_3).used)) (load1_at (off := oo1 + ((y4_3).toNat * 6 + 3)) (v := .int .i64 ((nthT cc.l y4_3).used)) (fun _ => by kernel_rfl) rfl (rd_fld (RecsX.rd (α := Ent) (.there .here)) ha1 hc6_5_0 3 (fun _ _ => rfl))) ?_
   refine sp 26 (.pointer (some ⟨b0_0, 3, none⟩)) ?_
   refine s_do (by kernel_rfl) (by kernel_rfl) (st_store (off := 3) (vs := [.int .i64 ((nthT cc.l y4_3).used)]) (c' := #[.int .i64 y3_1.fwd, .int .i64 y3_1.back, .int .i64 y3_1.line, .int .i64 ((nthT cc.l y4_3).used), .bool y3_1.dirty, .slice a3_1_00 (List.length y3_1.data) c3_1_00]) (fun _ => by kernel_rfl) (.there (.there .here)) (by kernel_rfl) (by kernel_rfl) (by kernel_rfl)) ?_
   rintro _ _ ⟨rfl, rfl⟩
   refine ops_end ?_
   refine ae [(0, .pointer (some ⟨c, 0, none⟩)), (3, .pointer (some ⟨b0_0, 0, none⟩)), (5, .int .i64 y4_3)] ?_
   refine at_then_normal ?_
   refine aq (x := C36 [1,1,1,0,1,1,0,1,0]) (y := C36 [1,1,1,0,1,1,0,1,1]) ?_
   refine at_region_draw (id := 7) (by kernel_rfl) (by kernel_rfl) ?_
   refine dp 0 27 (.pointer (some ⟨c, 0, none⟩)) ?_
   refine dp 1 28 (.pointer (some ⟨c, 0, none⟩)) ?_
   refine dp 2 29 (.pointer (some ⟨c, 3, none⟩)) ?_
   refine dl 3 30 (.slice x4_3_c.a3 (List.length cc.l) x4_3_c.c3) (load1 (off := 3) (fun _ => by kernel_rfl) (holds_own (.there .here)) (by kernel_rfl)) ?_
   refine dp 4 31 (.int .i64 y4_3) ?_
   refine dl 5 32 (.agg #[.int .i64 y3_1.fwd, .int .i64 y3_1.back, .int .i64 y3_1.line, .int .i64 ((nthT cc.l y4_3).used), .bool y3_1.dirty, .slice a3_1_00 (List.length y3_1.data) c3_1_00]) (loadN (off := 0) (vs := [.int .i64 y3_1.fwd, .int .i64 y3_1.back, .int .i64 y3_1.line, .int .i64 ((nthT cc.l y4_3).used), .bool y3_1.dirty, .slice a3_1_00 (List.length y3_1.data) c3_1_00]) 6 (fun _ => by kernel_rfl) (holds_own .here) rfl (by exact ⟨rfl, rfl, rfl, rfl, rfl, rfl, trivial⟩)) ?_
   obtain ⟨hc7_6_0, H⟩ := chkE H
   refine rd_at_draw (RecsX.rd (α := Ent) (.there (.there .here))) (by have := hc7_6_0; omega) ?_
   intro bb2 oo2 ha2
   refine d_pure 6 33 (.pointer (some ⟨bb2, oo2 + (((y4_3).toNat) * 6 + 0), none⟩)) (by kernel_rfl) (by kernel_rfl) (by kernel_rfl) (index_at (t := 81) (sz := 6) (E := 67) (a := x4_3_c.a3) (m := (List.length cc.l)) (c := x4_3_c.c3) (b := bb2) (off := oo2) (i := (y4_3).toNat) (tinfo 67) (fun _ => by kernel_rfl) (by kernel_rfl) (by kernel_rfl) (by kernel_rfl) ha2 (idx_cast hc7_6_0) (idx_nat hc7_6_0) rfl) ?_
   refine Draw.convS (Γ' := (ImmI a3_1_00 y3_1.data) :: (Asn.own b0_0 (.cells #[.int .i64 y3_1.fwd, .int .i64 y3_1.back, .int .i64 y3_1.line, .int .i64 ((nthT cc.l y4_3).used), .bool y3_1.dirty, .slice a3_1_00 (List.length y3_1.data) c3_1_00] 67 (0, 0))) :: (Asn.own c (.cells #[.int .i64 cc.sets, .int .i64 cc.ways, .int .i64 cc.clock, .slice x4_3_c.a3 (List.length cc.l) x4_3_c.c3] x4_3_c.T (0, 0))) :: (RecsX (α := Ent) x4_3_c.r3 x4_3_c.a3 x4_3_c.c3 cc.l) :: Γ) (fun w hw => RowsA.freeze (hw.pull (.there (.there (.there .here))))) (stable_cons 5 32 (.agg #[.int .i64 y3_1.fwd, .int .i64 y3_1.back, .int .i64 y3_1.line, .int .i64 ((nthT cc.l y4_3).used), .bool y3_1.dirty, .slice a3_1_00 (List.length y3_1.data) c3_1_00]) (by kernel_rfl) (by kernel_rfl) (by kernel_rfl) (loadN (off := 0) (vs := [.int .i64 y3_1.fwd, .int .i64 y3_1.back, .int .i64 y3_1.line, .int .i64 ((nthT cc.l y4_3).used), .bool y3_1.dirty, .slice a3_1_00 (List.length y3_1.data) c3_1_00]) 6 (fun _ => by kernel_rfl) (holds_own (.there .here)) rfl (by exact ⟨rfl, rfl, rfl, rfl, rfl, rfl, trivial⟩)) (stable_cons 3 30 (.slice x4_3_c.a3 (List.length cc.l) x4_3_c.c3) (by kernel_rfl) (by kernel_rfl) (by kernel_rfl) (load1 (off := 3) (fun _ => by kernel_rfl) (holds_own (.there (.there .here))) (by kernel_rfl)) stable_nil)) ?_
   obtain ⟨l7_7, hl7_7, H⟩ := letE H
   refine d_do 7 [6, 5, 0, 1, 2, 3, 4] [] [] (by kernel_rfl) (by kernel_rfl) (by kernel_rfl) (st_recs_set (α := Ent) (⟨y3_1.fwd, y3_1.back, y3_1.line, (nthT cc.l y4_3).used, y3_1.dirty, y3_1.data⟩ : Ent) c3_1_00 (vs := [.int .i64 y3_1.fwd, .int .i64 y3_1.back, .int .i64 y3_1.line, .int .i64 ((nthT cc.l y4_3).used), .bool y3_1.dirty, .slice a3_1_00 (List.length y3_1.data) c3_1_00]) rfl (fun _ => by kernel_rfl) (.there (.there (.there .here))) .here ha2 hc7_6_0 rfl) ?_
   rintro _ _ ⟨rowsl7_7, rfl, rfl⟩
   have hsl7_7 : List.set cc.l (y4_3).toNat (⟨y3_1.fwd, y3_1.back, y3_1.line, (nthT cc.l y4_3).used, y3_1.dirty, y3_1.data⟩ : Ent) = l7_7 := hl7_7
   rw [hsl7_7]
   have hnl7_7 : List.length cc.l = List.length l7_7 := by rw [← hsl7_7]; simp
   try rw [hnl7_7]
   refine ⟨stable_nil, ?_⟩
   refine draw_end (by kernel_rfl) ?_
   refine At.env [] trivial ?_
   refine at_then_normal ?_
   refine aq (x := C36 [1,1,1,0,1,1,0,1,1,0]) (y := C36 [1,1,1,0,1,1,0,1,1,1]) ?_
   refine ar (id := 8) 1 ?_
   refine sp 4 (.int .i64 (0)) ?_
   refine ops_end ?_
   refine ae [(4, .int .i64 (0))] ?_
   refine at_then_normal ?_
   refine at_ret (by kernel_rfl) ?_
   refine at_then_ret ?_
   refine At.conv (Γ' := (RChXA c (⟨x4_3_c.a3, x4_3_c.c3, rowsl7_7, x4_3_c.T⟩ : RChXP) ({ sets := cc.sets, ways := cc.ways, clock := cc.clock, l := l7_7 } : CacheS)) :: (Asn.own b0_0 (.cells #[.int .i64 y3_1.fwd, .int .i64 y3_1.back, .int .i64 y3_1.line, .int .i64 ((nthT cc.l y4_3).used), .bool y3_1.dirty, .slice a3_1_00 (List.length y3_1.data) c3_1_00] 67 (0, 0))) :: Γ) (fun w hw => RChXA.close (x := (⟨x4_3_c.a3, x4_3_c.c3, rowsl7_7, x4_3_c.T⟩ : RChXP)) (t := ({ sets := cc.sets, ways := cc.ways, clock := cc.clock, l := l7_7 } : CacheS)) (Sat.less (.take (.there (.there .here)) (.take .here (.take .here .refl))) hw)) ?_
   refine At.conv (Γ' := (RChA c ({ sets := cc.sets, ways := cc.ways, clock := cc.clock, l := l7_7 } : CacheS)) :: (Asn.own b0_0 (.cells #[.int .i64 y3_1.fwd, .int .i64 y3_1.back, .int .i64 y3_1.line, .int .i64 ((nthT cc.l y4_3).used), .bool y3_1.dirty, .slice a3_1_00 (List.length y3_1.data) c3_1_00] 67 (0, 0))) :: Γ) (fun w hw => RChXA.shut (hw.pull .here)) ?_
   obtain rfl := someE H
   refine at_backR [.int .i64 (0)] ((RChA c ({ sets := cc.sets, ways := cc.ways, clock := cc.clock, l := l7_7 } : CacheS)) :: Γ) (rs := [.tmp 4]) (by kernel_rfl) (.cons (.tmp (by kernel_rfl)) .nil) (fun w hw => (Sat.less (.take .here (.drop .here .refl)) hw)) ?_
   exact ⟨rfl, rfl⟩
  ·replace H := bifF H h2
   refine at_false (t := decide ((0 : Int) ≤ y4_3)) (x := C36 [1,1,1,0,1,1,0]) (y := C36 [1,1,1,0,1,1,1]) (o := .tmp 17) (by kernel_rfl) (by kernel_rfl) (by kernel_rfl) h2 ?_
   refine at_skip (by kernel_rfl) ?_
   refine at_then_normal ?_
   refine aq (x := C36 [1,1,1,1,0]) (y := C36 [1,1,1,1,1]) ?_
   refine aq (x := C36 [1,1,1,1,0,0]) (y := C36 [1,1,1,1,0,1]) ?_
   refine at_region_draw (id := 9) (by kernel_rfl) (by kernel_rfl) ?_
   refine dp 0 34 (.pointer (some ⟨c, 0, none⟩)) ?_
   refine dp 1 35 (.pointer (some ⟨b0_0, 2, none⟩)) ?_
   refine dl 2 36 (.int .i64 y3_1.line) (load1 (off := 2) (fun _ => by kernel_rfl) (holds_own (.there .here)) (by kernel_rfl)) ?_
   refine dp 4 38 (.pointer (some ⟨c, 0, none⟩)) ?_
   refine dp 5 39 (.pointer (some ⟨c, 0, none⟩)) ?_
   refine dp 6 40 (.pointer (some ⟨c, 1, none⟩)) ?_
   refine RChXA.open_draw .here ?_
   refine dl 7 41 (.int .i64 cc.ways) (load1 (off := 1) (fun _ => by kernel_rfl) (holds_own .here) (by kernel_rfl)) ?_
   refine Draw.convS (Γ' := (RChXA c x4_3_c cc) :: (Asn.own b0_0 (.cells #[.int .i64 y3_1.fwd, .int .i64 y3_1.back, .int .i64 y3_1.line, .int .i64 y3_1.used, .bool y3_1.dirty, .slice a3_1_00 (List.length y3_1.data) c3_1_00] 67 (0, 0))) :: (IntsA a3_1_00 c3_1_00 y3_1.data) :: Γ) (fun w hw => RChXA.close (x := x4_3_c) (t := cc) (Sat.less (.take .here (.take .here (.take .here (.take .here .refl)))) hw)) (stable_cons 7 41 (.int .i64 cc.ways) (by kernel_rfl) (by kernel_rfl) (by kernel_rfl) (fun w hw => (load1 (off := 1) (fun _ => by kernel_rfl) (holds_own .here) (by kernel_rfl)) w (Sat.star_of (hw.pull .here))) (stable_cons 2 36 (.int .i64 y3_1.line) (by kernel_rfl) (by kernel_rfl) (by kernel_rfl) (load1 (off := 2) (fun _ => by kernel_rfl) (holds_own (.there .here)) (by kernel_rfl)) stable_nil)) ?_
   obtain ⟨y9_3, hy9_3, H⟩ := bindE H
   refine d_call 3 37 [0, 2, 1] [6, 5, 4] [7] 59 #[.pointer (some ⟨c, 0, none⟩), .int .i64 y3_1.line] (by kernel_rfl) (by kernel_rfl) (by kernel_rfl) (fun _ => by kernel_rfl) (RInF_tr c x4_3_c cc y3_1.line y9_3 hy9_3) ?_
   rintro _ _ ⟨rfl, rfl⟩
   refine ⟨(stable_cons 7 41 (.int .i64 cc.ways) (by kernel_rfl) (by kernel_rfl) (by kernel_rfl) (fun w hw => (load1 (off := 1) (fun _ => by kernel_rfl) (holds_own .here) (by kernel_rfl)) w (Sat.star_of (hw.pull .here))) stable_nil), ?_⟩
   refine dp 8 42 (.bool (decide (cc.ways ≤ y9_3))) ?_
   refine draw_end (by kernel_rfl) ?_
   refine ae [(0, .pointer (some ⟨c, 0, none⟩)), (3, .pointer (some ⟨b0_0, 0, none⟩)), (42, .bool (decide (cc.ways ≤ y9_3)))] ?_
   refine at_then_normal ?_
   rcases Bool.eq_false_or_eq_true (decide (cc.ways ≤ y9_3)) with h3 | h3
   ·replace H := bifT H h3
    refine at_true (t := decide (cc.ways ≤ y9_3)) (x := C36 [1,1,1,1,0,1,0]) (y := C36 [1,1,1,1,0,1,1]) (o := .tmp 42) (by kernel_rfl) (by kernel_rfl) (by kernel_rfl) h3 ?_
    refine aq (x := C36 [1,1,1,1,0,1,0,0]) (y := C36 [1,1,1,1,0,1,0,1]) ?_
    refine ar (id := 10) 1 ?_
    refine sp 4 (.int .i64 (5)) ?_
    refine ops_end ?_
    refine ae [(4, .int .i64 (5))] ?_
    refine at_then_normal ?_
    refine at_ret (by kernel_rfl) ?_
    refine at_then_ret ?_
    refine At.conv (Γ' := (RChA c cc) :: (Asn.own b0_0 (.cells #[.int .i64 y3_1.fwd, .int .i64 y3_1.back, .int .i64 y3_1.line, .int .i64 y3_1.used, .bool y3_1.dirty, .slice a3_1_00 (List.length y3_1.data) c3_1_00] 67 (0, 0))) :: (IntsA a3_1_00 c3_1_00 y3_1.data) :: Γ) (fun w hw => RChXA.shut (hw.pull .here)) ?_
    obtain rfl := someE H
    refine at_backR [.int .i64 (5)] ((RChA c cc) :: Γ) (rs := [.tmp 4]) (by kernel_rfl) (.cons (.tmp (by kernel_rfl)) .nil) (fun w hw => (Sat.less (.take .here (.drop .here (.drop .here .refl))) hw)) ?_
    exact ⟨rfl, rfl⟩
   ·replace H := bifF H h3
    refine at_false (t := decide (cc.ways ≤ y9_3)) (x := C36 [1,1,1,1,0,1,0]) (y := C36 [1,1,1,1,0,1,1]) (o := .tmp 42) (by kernel_rfl) (by kernel_rfl) (by kernel_rfl) h3 ?_
    refine at_skip (by kernel_rfl) ?_
    refine at_then_normal ?_
    refine aq (x := C36 [1,1,1,1,1,0]) (y := C36 [1,1,1,1,1,1]) ?_
    refine ar (id := 11) 8 ?_
    refine sp 43 (.pointer (some ⟨c, 0, none⟩)) ?_
    refine sp 44 (.pointer (some ⟨c, 0, none⟩)) ?_
    refine sp 45 (.pointer (some ⟨c, 2, none⟩)) ?_
    refine RChXA.open .here ?_
    refine sl 46 (.int .i64 cc.clock) (load1 (off := 2) (fun _ => by kernel_rfl) (holds_own .here) (by kernel_rfl)) ?_
    refine sp 47 (.int .i64 (wr (cc.clock + (1 : Int)))) ?_
    refine sp 48 (.pointer (some ⟨c, 0, none⟩)) ?_
    refine sp 49 (.pointer (some ⟨c, 2, none⟩)) ?_
    refine s_do (by kernel_rfl) (by kernel_rfl) (st_store (off := 2) (vs := [.int .i64 (wr (cc.clock + (1 : Int)))]) (c' := #[.int .i64 cc.sets, .int .i64 cc.ways, .int .i64 (wr (cc.clock + (1 : Int))), .slice x4_3_c.a3 (List.length cc.l) x4_3_c.c3]) (fun _ => by kernel_rfl) .here (by kernel_rfl) (by kernel_rfl) (by kernel_rfl)) ?_
    rintro _ _ ⟨rfl, rfl⟩
    refine ops_end ?_
    refine ae [(0, .pointer (some ⟨c, 0, none⟩)), (3, .pointer (some ⟨b0_0, 0, none⟩))] ?_
    refine at_then_normal ?_
    refine aq (x := C36 [1,1,1,1,1,1,0]) (y := C36 [1,1,1,1,1,1,1]) ?_
    refine ar (id := 12) 6 ?_
    refine sp 50 (.pointer (some ⟨c, 0, none⟩)) ?_
    refine sp 51 (.pointer (some ⟨c, 0, none⟩)) ?_
    refine sp 52 (.pointer (some ⟨c, 2, none⟩)) ?_
    refine sl 53 (.int .i64 (wr (cc.clock + (1 : Int)))) (load1 (off := 2) (fun _ => by kernel_rfl) (holds_own .here) (by kernel_rfl)) ?_
    refine sp 54 (.pointer (some ⟨b0_0, 3, none⟩)) ?_
    refine s_do (by kernel_rfl) (by kernel_rfl) (st_store (off := 3) (vs := [.int .i64 (wr (cc.clock + (1 : Int)))]) (c' := #[.int .i64 y3_1.fwd, .int .i64 y3_1.back, .int .i64 y3_1.line, .int .i64 (wr (cc.clock + (1 : Int))), .bool y3_1.dirty, .slice a3_1_00 (List.length y3_1.data) c3_1_00]) (fun _ => by kernel_rfl) (.there (.there .here)) (by kernel_rfl) (by kernel_rfl) (by kernel_rfl)) ?_
    rintro _ _ ⟨rfl, rfl⟩
    refine ops_end ?_
    refine ae [(0, .pointer (some ⟨c, 0, none⟩)), (3, .pointer (some ⟨b0_0, 0, none⟩))] ?_
    refine at_then_normal ?_
    refine aq (x := C36 [1,1,1,1,1,1,1,0]) (y := C36 [1,1,1,1,1,1,1,1]) ?_
    refine ar (id := 13) 6 ?_
    refine sp 55 (.pointer (some ⟨c, 0, none⟩)) ?_
    refine sp 56 (.pointer (some ⟨c, 0, none⟩)) ?_
    refine sp 57 (.pointer (some ⟨c, 3, none⟩)) ?_
    refine sl 58 (.slice x4_3_c.a3 (List.length cc.l) x4_3_c.c3) (load1 (off := 3) (fun _ => by kernel_rfl) (holds_own (.there .here)) (by kernel_rfl)) ?_
    refine sp 59 (.int .i64 (((List.length cc.l) : Nat) : Int)) ?_
    refine sp 6 (.int .i64 (((List.length cc.l) : Nat) : Int)) ?_
    refine ops_end ?_
    refine ae [(0, .pointer (some ⟨c, 0, none⟩)), (3, .pointer (some ⟨b0_0, 0, none⟩)), (6, .int .i64 (((List.length cc.l) : Nat) : Int))] ?_
    refine at_then_normal ?_
    refine aq (x := C36 [1,1,1,1,1,1,1,1,0]) (y := C36 [1,1,1,1,1,1,1,1,1]) ?_
    refine at_block (i := 0) (x := C36 [1,1,1,1,1,1,1,1,0,0]) (by kernel_rfl) ?_
    refine At.conv (Γ' := (RChXA c x4_3_c ({ sets := cc.sets, ways := cc.ways, clock := wr (cc.clock + (1 : Int)), l := cc.l } : CacheS)) :: (Asn.own b0_0 (.cells #[.int .i64 y3_1.fwd, .int .i64 y3_1.back, .int .i64 y3_1.line, .int .i64 (wr (cc.clock + (1 : Int))), .bool y3_1.dirty, .slice a3_1_00 (List.length y3_1.data) c3_1_00] 67 (0, 0))) :: (IntsA a3_1_00 c3_1_00 y3_1.data) :: Γ) (fun w hw => RChXA.close (x := x4_3_c) (t := ({ sets := cc.sets, ways := cc.ways, clock := wr (cc.clock + (1 : Int)), l := cc.l } : CacheS)) (Sat.less (.take (.there .here) (.take (.there .here) (.take .here (.take .here .refl)))) hw)) ?_
    refine At.conv (Γ' := (RChA c ({ sets := cc.sets, ways := cc.ways, clock := wr (cc.clock + (1 : Int)), l := cc.l } : CacheS)) :: (Asn.own b0_0 (.cells #[.int .i64 y3_1.fwd, .int .i64 y3_1.back, .int .i64 y3_1.line, .int .i64 (wr (cc.clock + (1 : Int))), .bool y3_1.dirty, .slice a3_1_00 (List.length y3_1.data) c3_1_00] 67 (0, 0))) :: (IntsA a3_1_00 c3_1_00 y3_1.data) :: Γ) (fun w hw => RChXA.shut (hw.pull .here)) ?_
    refine At.conv (Γ' := (RChA c ({ sets := cc.sets, ways := cc.ways, clock := wr (cc.clock + (1 : Int)), l := cc.l } : CacheS)) :: (Asn.own b0_0 (.cells #[.int .i64 y3_1.fwd, .int .i64 y3_1.back, .int .i64 y3_1.line, .int .i64 (wr (cc.clock + (1 : Int))), .bool y3_1.dirty, .slice a3_1_00 (List.length y3_1.data) c3_1_00] 67 (0, 0))) :: (IntsA a3_1_00 c3_1_00 y3_1.data) :: Γ) (fun w hw => (Sat.less (.take .here (.take .here (.take .here .refl))) hw)) ?_
    refine at_loopR (x := C36 [1,1,1,1,1,1,1,1,0,0,0]) (fun mm ff ΔΔ => ∃ (fuel : Nat) (v0_6 : Int), rputS_l0 cc y3_1 (rputS_k0 cc y3_1) fuel v0_6 = some y ∧ fuel = mm ∧ ff = [(0, .pointer (some ⟨c, 0, none⟩)), (3, .pointer (some ⟨b0_0, 0, none⟩)), (6, .int .i64 v0_6)] ∧ (RChA c ({ sets := cc.sets, ways := cc.ways, clock := wr (cc.clock + (1 : Int)), l := cc.l } : CacheS)) :: (Asn.own b0_0 (.cells #[.int .i64 y3_1.fwd, .int .i64 y3_1.back, .int .i64 y3_1.line, .int .i64 (wr (cc.clock + (1 : Int))), .bool y3_1.dirty, .slice a3_1_00 (List.length y3_1.data) c3_1_00] 67 (0, 0))) :: (IntsA a3_1_00 c3_1_00 y3_1.data) :: Γ = ΔΔ) (64) (by kernel_rfl) [(0, .pointer (some ⟨c, 0, none⟩)), (3, .pointer (some ⟨b0_0, 0, none⟩)), (6, .int .i64 (((List.length cc.l) : Nat) : Int))] ⟨by kernel_rfl, by kernel_rfl, by kernel_rfl, trivial⟩ ⟨64, (((List.length cc.l) : Nat) : Int), H, rfl, rfl, rfl⟩ ?_
    rintro _ _ _ ⟨fuel1, v0_6, H, rfl, rfl, rfl⟩
    rcases fuel1 with _ | fuel1
    ·exact (noneE H).elim
    rw [rputS_l0] at H
    refine aq (x := C36 [1,1,1,1,1,1,1,1,0,0,0,0]) (y := C36 [1,1,1,1,1,1,1,1,0,0,0,1]) ?_
    refine aq (x := C36 [1,1,1,1,1,1,1,1,0,0,0,0,0]) (y := C36 [1,1,1,1,1,1,1,1,0,0,0,0,1]) ?_
    refine at_region_draw (id := 14) (by kernel_rfl) (by kernel_rfl) ?_
    refine dp 0 60 (.int .i64 v0_6) ?_
    refine dp 1 61 (.bool (decide ((0 : Int) < v0_6))) ?_
    rcases Bool.eq_false_or_eq_true (decide ((0 : Int) < v0_6)) with h4 | h4
    ·replace H := bifT H h4
     refine d_pure 2 62 (.bool true) (by kernel_rfl) (by kernel_rfl) (by kernel_rfl) (run_eq (v := .bool (decide ((0 : Int) < v0_6))) (fun _ => by kernel_rfl) (congrArg Value.bool h4)) ?_
     refine dp 3 63 (.pointer (some ⟨c, 0, none⟩)) ?_
     refine dp 4 64 (.pointer (some ⟨c, 0, none⟩)) ?_
     refine dp 5 65 (.pointer (some ⟨c, 3, none⟩)) ?_
     refine RChA.tox_draw .here ?_
     intro x14_6_c
     refine RChXA.open_draw .here ?_
     refine Draw.conv (Γ' := (Asn.own c (.cells #[.int .i64 cc.sets, .int .i64 cc.ways, .int .i64 (wr (cc.clock + (1 : Int))), .slice x14_6_c.a3 (List.length cc.l) x14_6_c.c3] x14_6_c.T (0, 0))) :: (RecsX (α := Ent) x14_6_c.r3 x14_6_c.a3 x14_6_c.c3 cc.l) :: (Asn.own b0_0 (.cells #[.int .i64 y3_1.fwd, .int .i64 y3_1.back, .int .i64 y3_1.line, .int .i64 (wr (cc.clock + (1 : Int))), .bool y3_1.dirty, .slice a3_1_00 (List.length y3_1.data) c3_1_00] 67 (0, 0))) :: (IntsA a3_1_00 c3_1_00 y3_1.data) :: Γ) (fun w hw => hw) (fun w hw => hw) ?_
     refine dl 6 66 (.slice x14_6_c.a3 (List.length cc.l) x14_6_c.c3) (load1 (off := 3) (fun _ => by kernel_rfl) (holds_own .here) (by kernel_rfl)) ?_
     refine dp 7 67 (.int .i64 v0_6) ?_
     obtain ⟨hc14_8_0, H⟩ := chkE H
     refine d_pure 8 68 (.int .i64 (v0_6 - (1 : Int))) (by kernel_rfl) (by kernel_rfl) (by kernel_rfl) (run_eq (v := .int .i64 (IntKind.i64.wrap (v0_6 - (1 : Int)))) (fun _ => by kernel_rfl) (by rw [inR.wrap hc14_8_0])) ?_
     obtain ⟨hc14_9_0, H⟩ := chkE H
     refine rd_at_draw (RecsX.rd (α := Ent) (.there .here)) (by have := hc14_9_0; omega) ?_
     intro bb3 oo3 ha3
     refine d_pure 9 69 (.pointer (some ⟨bb3, oo3 + ((((v0_6 - (1 : Int))).toNat) * 6 + 0), none⟩)) (by kernel_rfl) (by kernel_rfl) (by kernel_rfl) (index_at (t := 81) (sz := 6) (E := 67) (a := x14_6_c.a3) (m := (List.length cc.l)) (c := x14_6_c.c3) (b := bb3) (off := oo3) (i := ((v0_6 - (1 : Int))).toNat) (tinfo 67) (fun _ => by kernel_rfl) (by kernel_rfl) (by kernel_rfl) (by kernel_rfl) ha3 (idx_cast hc14_9_0) (idx_nat hc14_9_0) rfl) ?_
     refine d_pure 10 70 (.pointer (some ⟨bb3, oo3 + ((((v0_6 - (1 : Int))).toNat) * 6 + 2), none⟩)) (by kernel_rfl) (by kernel_rfl) (by kernel_rfl) (field_at (f := 2) (addr := ⟨bb3, oo3 + ((((v0_6 - (1 : Int))).toNat) * 6 + 0), none⟩) (fun _ => by kernel_rfl) rfl rfl) ?_
     refine dl 11 71 (.int .i64 ((nthT cc.l (v0_6 - (1 : Int))).line)) (load1_at (off := oo3 + (((v0_6 - (1 : Int))).toNat * 6 + 2)) (v := .int .i64 ((nthT cc.l (v0_6 - (1 : Int))).line)) (fun _ => by kernel_rfl) rfl (rd_fld (RecsX.rd (α := Ent) (.there .here)) ha3 hc14_9_0 2 (fun _ _ => rfl))) ?_
     refine dp 12 72 (.pointer (some ⟨b0_0, 2, none⟩)) ?_
     refine dl 13 73 (.int .i64 y3_1.line) (load1 (off := 2) (fun _ => by kernel_rfl) (holds_own (.there (.there .here))) (by kernel_rfl)) ?_
     refine dp 14 74 (.bool (decide (y3_1.line < ((nthT cc.l (v0_6 - (1 : Int))).line)))) ?_
     refine dp 15 75 (.bool (decide (y3_1.line < ((nthT cc.l (v0_6 - (1 : Int))).line)))) ?_
     refine draw_end (by kernel_rfl) ?_
     refine ae [(0, .pointer (some ⟨c, 0, none⟩)), (3, .pointer (some ⟨b0_0, 0, none⟩)), (6, .int .i64 v0_6), (75, .bool (decide (y3_1.line < ((nthT cc.l (v0_6 - (1 : Int))).line))))] ?_
     refine at_then_normal ?_
     rcases Bool.eq_false_or_eq_true (decide (y3_1.line < ((nthT cc.l (v0_6 - (1 : Int))).line))) with h5 | h5
     ·replace H := bifT H h5
      refine at_true (t := decide (y3_1.line < ((nthT cc.l (v0_6 - (1 : Int))).line))) (x := C36 [1,1,1,1,1,1,1,1,0,0,0,0,1,0]) (y := C36 [1,1,1,1,1,1,1,1,0,0,0,0,1,1]) (o := .tmp 75) (by kernel_rfl) (by kernel_rfl) (by kernel_rfl) h5 ?_
      refine at_skip (by kernel_rfl) ?_
      refine at_then_normal ?_
      refine at_block (i := 1) (x := C36 [1,1,1,1,1,1,1,1,0,0,0,1,0]) (by kernel_rfl) ?_
      refine ar (id := 15) 3 ?_
      refine sp 76 (.int .i64 v0_6) ?_
      obtain ⟨hc15_1_0, H⟩ := chkE H
      refine sr 77 (.int .i64 (v0_6 - (1 : Int))) (run_eq (v := .int .i64 (IntKind.i64.wrap (v0_6 - (1 : Int)))) (fun _ => by kernel_rfl) (by rw [inR.wrap hc15_1_0])) ?_
      refine sp 6 (.int .i64 (v0_6 - (1 : Int))) ?_
      refine ops_end ?_
      refine ae [(0, .pointer (some ⟨c, 0, none⟩)), (3, .pointer (some ⟨b0_0, 0, none⟩)), (6, .int .i64 (v0_6 - (1 : Int)))] ?_
      refine at_in_normal ?_
      refine at_round_normal ?_
      refine At.conv (Γ' := (RChXA c x14_6_c ({ sets := cc.sets, ways := cc.ways, clock := wr (cc.clock + (1 : Int)), l := cc.l } : CacheS)) :: (Asn.own b0_0 (.cells #[.int .i64 y3_1.fwd, .int .i64 y3_1.back, .int .i64 y3_1.line, .int .i64 (wr (cc.clock + (1 : Int))), .bool y3_1.dirty, .slice a3_1_00 (List.length y3_1.data) c3_1_00] 67 (0, 0))) :: (IntsA a3_1_00 c3_1_00 y3_1.data) :: Γ) (fun w hw => RChXA.close (x := x14_6_c) (t := ({ sets := cc.sets, ways := cc.ways, clock := wr (cc.clock + (1 : Int)), l := cc.l } : CacheS)) (Sat.less (.take .here (.take .here (.take .here (.take .here .refl)))) hw)) ?_
      refine At.conv (Γ' := (RChA c ({ sets := cc.sets, ways := cc.ways, clock := wr (cc.clock + (1 : Int)), l := cc.l } : CacheS)) :: (Asn.own b0_0 (.cells #[.int .i64 y3_1.fwd, .int .i64 y3_1.back, .int .i64 y3_1.line, .int .i64 (wr (cc.clock + (1 : Int))), .bool y3_1.dirty, .slice a3_1_00 (List.length y3_1.data) c3_1_00] 67 (0, 0))) :: (IntsA a3_1_00 c3_1_00 y3_1.data) :: Γ) (fun w hw => RChXA.shut (hw.pull .here)) ?_
      exact at_roundR fuel1 [(0, .pointer (some ⟨c, 0, none⟩)), (3, .pointer (some ⟨b0_0, 0, none⟩)), (6, .int .i64 (v0_6 - (1 : Int)))] ((RChA c ({ sets := cc.sets, ways := cc.ways, clock := wr (cc.clock + (1 : Int)), l := cc.l } : CacheS)) :: (Asn.own b0_0 (.cells #[.int .i64 y3_1.fwd, .int .i64 y3_1.back, .int .i64 y3_1.line, .int .i64 (wr (cc.clock + (1 : Int))), .bool y3_1.dirty, .slice a3_1_00 (List.length y3_1.data) c3_1_00] 67 (0, 0))) :: (IntsA a3_1_00 c3_1_00 y3_1.data) :: Γ) (Nat.lt_succ_self _) ⟨by kernel_rfl, by kernel_rfl, by kernel_rfl, trivial⟩ (fun w hw => (Sat.less (.take .here (.take .here (.take .here .refl))) hw)) ⟨fuel1, v0_6 - (1 : Int), H, rfl, rfl, rfl⟩
     ·replace H := bifF H h5
      refine at_false (t := decide (y3_1.line < ((nthT cc.l (v0_6 - (1 : Int))).line))) (x := C36 [1,1,1,1,1,1,1,1,0,0,0,0,1,0]) (y := C36 [1,1,1,1,1,1,1,1,0,0,0,0,1,1]) (o := .tmp 75) (by kernel_rfl) (by kernel_rfl) (by kernel_rfl) h5 ?_
      refine at_exit (i := 0) (by kernel_rfl) ?_
      refine at_then_exit ?_
      refine at_then_exit ?_
      refine At.conv (Γ' := (RChXA c x14_6_c ({ sets := cc.sets, ways := cc.ways, clock := wr (cc.clock + (1 : Int)), l := cc.l } : CacheS)) :: (Asn.own b0_0 (.cells #[.int .i64 y3_1.fwd, .int .i64 y3_1.back, .int .i64 y3_1.line, .int .i64 (wr (cc.clock + (1 : Int))), .bool y3_1.dirty, .slice a3_1_00 (List.length y3_1.data) c3_1_00] 67 (0, 0))) :: (IntsA a3_1_00 c3_1_00 y3_1.data) :: Γ) (fun w hw => RChXA.close (x := x14_6_c) (t := ({ sets := cc.sets, ways := cc.ways, clock := wr (cc.clock + (1 : Int)), l := cc.l } : CacheS)) (Sat.less (.take .here (.take .here (.take .here (.take .here .refl)))) hw)) ?_
      refine At.conv (Γ' := (RChA c ({ sets := cc.sets, ways := cc.ways, clock := wr (cc.clock + (1 : Int)), l := cc.l } : CacheS)) :: (Asn.own b0_0 (.cells #[.int .i64 y3_1.fwd, .int .i64 y3_1.back, .int .i64 y3_1.line, .int .i64 (wr (cc.clock + (1 : Int))), .bool y3_1.dirty, .slice a3_1_00 (List.length y3_1.data) c3_1_00] 67 (0, 0))) :: (IntsA a3_1_00 c3_1_00 y3_1.data) :: Γ) (fun w hw => RChXA.shut (hw.pull .here)) ?_
      rw [rputS_k0] at H
      refine ae [(0, .pointer (some ⟨c, 0, none⟩)), (3, .pointer (some ⟨b0_0, 0, none⟩)), (6, .int .i64 v0_6)] ?_
      refine At.conv (Γ' := (RChA c ({ sets := cc.sets, ways := cc.ways, clock := wr (cc.clock + (1 : Int)), l := cc.l } : CacheS)) :: (Asn.own b0_0 (.cells #[.int .i64 y3_1.fwd, .int .i64 y3_1.back, .int .i64 y3_1.line, .int .i64 (wr (cc.clock + (1 : Int))), .bool y3_1.dirty, .slice a3_1_00 (List.length y3_1.data) c3_1_00] 67 (0, 0))) :: (IntsA a3_1_00 c3_1_00 y3_1.data) :: Γ) (fun w hw => (Sat.less (.take .here (.take .here (.take .here .refl))) hw)) ?_
      refine at_in_here ?_
      refine at_then_normal ?_
      refine aq (x := C36 [1,1,1,1,1,1,1,1,1,0]) (y := C36 [1,1,1,1,1,1,1,1,1,1]) ?_
      refine at_region_draw (id := 16) (by kernel_rfl) (by kernel_rfl) ?_
      refine dp 0 78 (.pointer (some ⟨c, 0, none⟩)) ?_
      refine dp 1 79 (.pointer (some ⟨c, 0, none⟩)) ?_
      refine dp 2 80 (.pointer (some ⟨c, 0, none⟩)) ?_
      refine dp 3 81 (.pointer (some ⟨c, 3, none⟩)) ?_
      refine RChA.tox_draw .here ?_
      intro x16_4_c
      refine RChXA.open_draw .here ?_
      refine Draw.conv (Γ' := (Asn.own c (.cells #[.int .i64 cc.sets, .int .i64 cc.ways, .int .i64 (wr (cc.clock + (1 : Int))), .slice x16_4_c.a3 (List.length cc.l) x16_4_c.c3] x16_4_c.T (0, 0))) :: (RecsX (α := Ent) x16_4_c.r3 x16_4_c.a3 x16_4_c.c3 cc.l) :: (Asn.own b0_0 (.cells #[.int .i64 y3_1.fwd, .int .i64 y3_1.back, .int .i64 y3_1.line, .int .i64 (wr (cc.clock + (1 : Int))), .bool y3_1.dirty, .slice a3_1_00 (List.length y3_1.data) c3_1_00] 67 (0, 0))) :: (IntsA a3_1_00 c3_1_00 y3_1.data) :: Γ) (fun w hw => hw) (fun w hw => hw) ?_
      refine dl 4 82 (.slice x16_4_c.a3 (List.length cc.l) x16_4_c.c3) (load1 (off := 3) (fun _ => by kernel_rfl) (holds_own .here) (by kernel_rfl)) ?_
      refine dp 5 83 (.int .i64 v0_6) ?_
      refine dp 6 84 (.int .i64 v0_6) ?_
      obtain ⟨hc16_7_0, H⟩ := chkE H
      obtain ⟨l16_7, hl16_7, H⟩ := letE H
      refine Draw.known (p := (List.length cc.l) ≤ x16_4_c.c3) (fun w hw => (RecsX.len (hw.pull (.there .here))).2) ?_
      intro hcap1
      have hbl16_7 := hc16_7_0
      obtain ⟨a16_7, ha16_7⟩ : ∃ y : Option Addr, y = (if (v0_6).toNat = 0 then x16_4_c.a3 else Option.map (fun x => Addr.add x (0 * 6)) x16_4_c.a3) := ⟨_, rfl⟩
      have hrl16_7 : RecRd (α := Ent) W0 ((RecsX (α := Ent) x16_4_c.r3 x16_4_c.a3 x16_4_c.c3 cc.l) :: Γ) a16_7 ((x16_4_c.r3.drop 0).take ((v0_6).toNat - 0)) l16_7 := by rw [ha16_7]; exact RecRd.part (lo := 0) (hi := (v0_6).toNat) (RecsX.rd .here) hl16_7 (by omega)
      refine d_pure 7 85 (.slice a16_7 (List.length l16_7) ((v0_6).toNat - 0)) (by kernel_rfl) (by kernel_rfl) (by kernel_rfl) (run_eq (slice_at (t := 81) (lo := 0) (hi := (v0_6).toNat) (mx := (v0_6).toNat) (sz := 6) (E := 67) (a := x16_4_c.a3) (m := (List.length cc.l)) (c := x16_4_c.c3) none (some (.int .i64 v0_6)) (some (.int .i64 v0_6)) (tinfo 67) (fun _ => by kernel_rfl) (by kernel_rfl) (by kernel_rfl) (by kernel_rfl) (Or.inl ⟨rfl, rfl⟩) (Or.inr ⟨_, rfl, by omega⟩) (Or.inr ⟨_, rfl, by omega⟩) (by omega) (by omega) (by omega)) (by rw [← ha16_7, show (v0_6).toNat - 0 = List.length l16_7 from by rw [← hl16_7]; simp only [List.length_take, List.length_drop]; omega])) ?_
      refine dl 8 86 (.agg #[.int .i64 y3_1.fwd, .int .i64 y3_1.back, .int .i64 y3_1.line, .int .i64 (wr (cc.clock + (1 : Int))), .bool y3_1.dirty, .slice a3_1_00 (List.length y3_1.data) c3_1_00]) (loadN (off := 0) (vs := [.int .i64 y3_1.fwd, .int .i64 y3_1.back, .int .i64 y3_1.line, .int .i64 (wr (cc.clock + (1 : Int))), .bool y3_1.dirty, .slice a3_1_00 (List.length y3_1.data) c3_1_00]) 6 (fun _ => by kernel_rfl) (holds_own (.there (.there .here))) rfl (by exact ⟨rfl, rfl, rfl, rfl, rfl, rfl, trivial⟩)) ?_
      refine dp 10 88 (.pointer (some ⟨c, 0, none⟩)) ?_
      refine dp 11 89 (.pointer (some ⟨c, 0, none⟩)) ?_
      refine dp 12 90 (.pointer (some ⟨c, 3, none⟩)) ?_
      refine dl 13 91 (.slice x16_4_c.a3 (List.length cc.l) x16_4_c.c3) (load1 (off := 3) (fun _ => by kernel_rfl) (holds_own .here) (by kernel_rfl)) ?_
      refine dp 14 92 (.int .i64 v0_6) ?_
      obtain ⟨hc16_15_0, H⟩ := chkE H
      obtain ⟨l16_15, hl16_15, H⟩ := letE H
      refine Draw.known (p := (List.length cc.l) ≤ x16_4_c.c3) (fun w hw => (RecsX.len (hw.pull (.there .here))).2) ?_
      intro hcap2
      have hbl16_15 := hc16_15_0
      obtain ⟨a16_15, ha16_15⟩ : ∃ y : Option Addr, y = (if x16_4_c.c3 = (v0_6).toNat then x16_4_c.a3 else Option.map (fun x => Addr.add x ((v0_6).toNat * 6)) x16_4_c.a3) := ⟨_, rfl⟩
      have hrl16_15 : RecRd (α := Ent) W0 ((RecsX (α := Ent) x16_4_c.r3 x16_4_c.a3 x16_4_c.c3 cc.l) :: Γ) a16_15 ((x16_4_c.r3.drop (v0_6).toNat).take ((List.length cc.l) - (v0_6).toNat)) l16_15 := by rw [ha16_15]; exact RecRd.part (lo := (v0_6).toNat) (hi := (List.length cc.l)) (RecsX.rd .here) hl16_15 (by omega)
      refine d_pure 15 93 (.slice a16_15 (List.length l16_15) (x16_4_c.c3 - (v0_6).toNat)) (by kernel_rfl) (by kernel_rfl) (by kernel_rfl) (run_eq (slice_at (t := 81) (lo := (v0_6).toNat) (hi := (List.length cc.l)) (mx := x16_4_c.c3) (sz := 6) (E := 67) (a := x16_4_c.a3) (m := (List.length cc.l)) (c := x16_4_c.c3) (some (.int .i64 v0_6)) none none (tinfo 67) (fun _ => by kernel_rfl) (by kernel_rfl) (by kernel_rfl) (by kernel_rfl) (Or.inr ⟨_, rfl, by omega⟩) (Or.inl ⟨rfl, rfl, rfl⟩) (Or.inl ⟨rfl, rfl⟩) (by omega) (by omega) (by omega)) (by rw [← ha16_15, show (List.length cc.l) - (v0_6).toNat = List.length l16_15 from by rw [← hl16_15]; simp only [List.length_take, List.length_drop]; omega])) ?_
      refine d_step 9 87 [8] [15, 14, 12, 11, 10, 7, 6, 5, 3, 2, 1, 0] [13, 4] (by kernel_rfl) (by kernel_rfl) (by kernel_rfl) (st_new (T := 67) (cells := #[.int .i64 y3_1.fwd, .int .i64 y3_1.back, .int .i64 y3_1.line, .int .i64 (wr (cc.clock + (1 : Int))), .bool y3_1.dirty, .slice a3_1_00 (List.length y3_1.data) c3_1_00]) (fun a => .slice (some a) 1 1) (fun _ => by kernel_rfl)) ?_
      rintro _ _ ⟨b16_9, rfl, rfl⟩
      refine ⟨(stable_cons 13 91 (.slice x16_4_c.a3 (List.length cc.l) x16_4_c.c3) (by kernel_rfl) (by kernel_rfl) (by kernel_rfl) (load1 (off := 3) (fun _ => by kernel_rfl) (holds_own (.there .here)) (by kernel_rfl)) (stable_cons 4 82 (.slice x16_4_c.a3 (List.length cc.l) x16_4_c.c3) (by kernel_rfl) (by kernel_rfl) (by kernel_rfl) (load1 (off := 3) (fun _ => by kernel_rfl) (holds_own (.there .here)) (by kernel_rfl)) stable_nil)), ?_⟩
      refine Draw.convS (Γ' := (ImmI a3_1_00 y3_1.data) :: (Asn.own b16_9 (.cells #[.int .i64 y3_1.fwd, .int .i64 y3_1.back, .int .i64 y3_1.line, .int .i64 (wr (cc.clock + (1 : Int))), .bool y3_1.dirty, .slice a3_1_00 (List.length y3_1.data) c3_1_00] 67 (0, 0))) :: (Asn.own c (.cells #[.int .i64 cc.sets, .int .i64 cc.ways, .int .i64 (wr (cc.clock + (1 : Int))), .slice x16_4_c.a3 (List.length cc.l) x16_4_c.c3] x16_4_c.T (0, 0))) :: (RecsX (α := Ent) x16_4_c.r3 x16_4_c.a3 x16_4_c.c3 cc.l) :: (Asn.own b0_0 (.cells #[.int .i64 y3_1.fwd, .int .i64 y3_1.back, .int .i64 y3_1.line, .int .i64 (wr (cc.clock + (1 : Int))), .bool y3_1.dirty, .slice a3_1_00 (List.length y3_1.data) c3_1_00] 67 (0, 0))) :: Γ) (fun w hw => RowsA.freeze (hw.pull (.there (.there (.there (.there .here)))))) (stable_cons 13 91 (.slice x16_4_c.a3 (List.length cc.l) x16_4_c.c3) (by kernel_rfl) (by kernel_rfl) (by kernel_rfl) (load1 (off := 3) (fun _ => by kernel_rfl) (holds_own (.there (.there .here))) (by kernel_rfl)) (stable_cons 4 82 (.slice x16_4_c.a3 (List.length cc.l) x16_4_c.c3) (by kernel_rfl) (by kernel_rfl) (by kernel_rfl) (load1 (off := 3) (fun _ => by kernel_rfl) (holds_own (.there (.there .here))) (by kernel_rfl)) stable_nil)) ?_
      obtain ⟨hc16_16_0, H⟩ := chkE H
      obtain ⟨l16_16, hl16_16, H⟩ := letE H
      refine d_step 16 94 [9, 15, 8, 13, 14, 12, 11, 10] [7, 6, 5, 3, 2, 1, 0] [4] (by kernel_rfl) (by kernel_rfl) (by kernel_rfl) (StepTo.conv (Γ' := (RecsX (α := Ent) ([Rec.row (⟨y3_1.fwd, y3_1.back, y3_1.line, wr (cc.clock + (1 : Int)), y3_1.dirty, y3_1.data⟩ : Ent) a3_1_00 c3_1_00]) (some ⟨b16_9, 0, none⟩) 1 ([(⟨y3_1.fwd, y3_1.back, y3_1.line, wr (cc.clock + (1 : Int)), y3_1.dirty, y3_1.data⟩ : Ent)])) :: (Asn.own c (.cells #[.int .i64 cc.sets, .int .i64 cc.ways, .int .i64 (wr (cc.clock + (1 : Int))), .slice x16_4_c.a3 (List.length cc.l) x16_4_c.c3] x16_4_c.T (0, 0))) :: (RecsX (α := Ent) x16_4_c.r3 x16_4_c.a3 x16_4_c.c3 cc.l) :: (Asn.own b0_0 (.cells #[.int .i64 y3_1.fwd, .int .i64 y3_1.back, .int .i64 y3_1.line, .int .i64 (wr (cc.clock + (1 : Int))), .bool y3_1.dirty, .slice a3_1_00 (List.length y3_1.data) c3_1_00] 67 (0, 0))) :: Γ) (fun w hw => RecsX.of_own1 (α := Ent) (x := (⟨y3_1.fwd, y3_1.back, y3_1.line, wr (cc.clock + (1 : Int)), y3_1.dirty, y3_1.data⟩ : Ent)) (c2 := c3_1_00) rfl (Sat.less (.take (.there .here) (.take .here (.take .here (.take .here (.take .here .refl))))) hw)) (st_append_recs (α := Ent) (m1 := 1) (m2 := (List.length l16_15)) (cap2 := (x16_4_c.c3 - (v0_6).toNat)) (xs := [(⟨y3_1.fwd, y3_1.back, y3_1.line, wr (cc.clock + (1 : Int)), y3_1.dirty, y3_1.data⟩ : Ent)]) (ys := l16_15) (zs := l16_16) (info := tinfo 67) 64 (.agg #[.int .i64 (0), .int .i64 (0), .int .i64 (0), .int .i64 (0), .bool false, .slice none 0 0]) (m := List.length l16_16) 81 81 67 (fun _ => by kernel_rfl) (by kernel_rfl) (by kernel_rfl) (by kernel_rfl) (by kernel_rfl) (by kernel_rfl) (by kernel_rfl) (by kernel_rfl) (by kernel_rfl) .here (RecRd.less (.take (.there (.there .here)) (.drop .here (.drop .here (.drop .here .refl)))) hrl16_15) (by first | rfl | simp) (by first | rfl | simp) rfl hl16_16 (by rw [← hl16_16]; exact hc16_16_0))) ?_
      rintro _ _ ⟨a16_16, c16_16, rw16_16, rfl, rfl⟩
      refine ⟨(stable_cons 4 82 (.slice x16_4_c.a3 (List.length cc.l) x16_4_c.c3) (by kernel_rfl) (by kernel_rfl) (by kernel_rfl) (load1 (off := 3) (fun _ => by kernel_rfl) (holds_own (.there .here)) (by kernel_rfl)) stable_nil), ?_⟩
      obtain ⟨hc16_17_0, H⟩ := chkE H
      obtain ⟨l16_17, hl16_17, H⟩ := letE H
      refine d_step 17 95 [7, 16, 4, 5, 6, 9, 15, 3, 8, 13, 14, 2, 12, 1, 11, 10] [0] [] (by kernel_rfl) (by kernel_rfl) (by kernel_rfl) (StepTo.conv (Γ' := (RecsX (α := Ent) ((x16_4_c.r3.drop 0).take ((v0_6).toNat - 0)) a16_7 ((v0_6).toNat - 0) l16_7) :: (RecsX (α := Ent) rw16_16 a16_16 c16_16 l16_16) :: (Asn.own c (.cells #[.int .i64 cc.sets, .int .i64 cc.ways, .int .i64 (wr (cc.clock + (1 : Int))), .slice x16_4_c.a3 (List.length cc.l) x16_4_c.c3] x16_4_c.T (0, 0))) :: (Asn.own b0_0 (.cells #[.int .i64 y3_1.fwd, .int .i64 y3_1.back, .int .i64 y3_1.line, .int .i64 (wr (cc.clock + (1 : Int))), .bool y3_1.dirty, .slice a3_1_00 (List.length y3_1.data) c3_1_00] 67 (0, 0))) :: Γ) (fun w hw => RecsX.shrink (α := Ent) (hi := (v0_6).toNat) (mx := (v0_6).toNat) ha16_7 hl16_7 (by omega) (by omega) (Sat.less (.take (.there (.there .here)) (.take .here (.take .here (.take .here .refl)))) hw)) (st_append_recs (α := Ent) (m1 := (List.length l16_7)) (m2 := (List.length l16_16)) (cap2 := c16_16) (xs := l16_7) (ys := l16_16) (zs := l16_17) (info := tinfo 67) 64 (.agg #[.int .i64 (0), .int .i64 (0), .int .i64 (0), .int .i64 (0), .bool false, .slice none 0 0]) (m := List.length l16_17) 81 81 67 (fun _ => by kernel_rfl) (by kernel_rfl) (by kernel_rfl) (by kernel_rfl) (by kernel_rfl) (by kernel_rfl) (by kernel_rfl) (by kernel_rfl) (by kernel_rfl) .here (RecsX.rd (α := Ent) (.there .here)) (by first | rfl | simp) (by first | rfl | simp) rfl hl16_17 (by rw [← hl16_17]; exact hc16_17_0))) ?_
      rintro _ _ ⟨a16_17, c16_17, rw16_17, rfl, rfl⟩
      refine ⟨stable_nil, ?_⟩
      refine dp 18 96 (.pointer (some ⟨c, 0, none⟩)) ?_
      refine dp 19 97 (.pointer (some ⟨c, 3, none⟩)) ?_
      refine d_do 20 [19, 17, 0, 1, 2, 3, 4, 5, 6, 7, 8, 9, 10, 11, 12, 13, 14, 15, 16, 18] [] [] (by kernel_rfl) (by kernel_rfl) (by kernel_rfl) (st_store (off := 3) (vs := [.slice a16_17 (List.length l16_17) c16_17]) (c' := #[.int .i64 cc.sets, .int .i64 cc.ways, .int .i64 (wr (cc.clock + (1 : Int))), .slice a16_17 (List.length l16_17) c16_17]) (fun _ => by kernel_rfl) (.there (.there .here)) (by kernel_rfl) (by kernel_rfl) (by kernel_rfl)) ?_
      rintro _ _ ⟨rfl, rfl⟩
      refine ⟨stable_nil, ?_⟩
      refine draw_end (by kernel_rfl) ?_
      refine At.env [] trivial ?_
      refine at_then_normal ?_
      refine aq (x := C36 [1,1,1,1,1,1,1,1,1,1,0]) (y := C36 [1,1,1,1,1,1,1,1,1,1,1]) ?_
      refine ar (id := 17) 1 ?_
      refine sp 4 (.int .i64 (0)) ?_
      refine ops_end ?_
      refine ae [(4, .int .i64 (0))] ?_
      refine at_then_normal ?_
      refine at_ret (by kernel_rfl) ?_
      refine At.conv (Γ' := (RChXA c (⟨a16_17, c16_17, rw16_17, x16_4_c.T⟩ : RChXP) ({ sets := cc.sets, ways := cc.ways, clock := wr (cc.clock + (1 : Int)), l := l16_17 } : CacheS)) :: (RecsX (α := Ent) rw16_16 a16_16 c16_16 l16_16) :: (Asn.own b0_0 (.cells #[.int .i64 y3_1.fwd, .int .i64 y3_1.back, .int .i64 y3_1.line, .int .i64 (wr (cc.clock + (1 : Int))), .bool y3_1.dirty, .slice a3_1_00 (List.length y3_1.data) c3_1_00] 67 (0, 0))) :: Γ) (fun w hw => RChXA.close (x := (⟨a16_17, c16_17, rw16_17, x16_4_c.T⟩ : RChXP)) (t := ({ sets := cc.sets, ways := cc.ways, clock := wr (cc.clock + (1 : Int)), l := l16_17 } : CacheS)) (Sat.less (.take .here (.take .here (.take .here (.take .here .refl)))) hw)) ?_
      refine At.conv (Γ' := (RChA c ({ sets := cc.sets, ways := cc.ways, clock := wr (cc.clock + (1 : Int)), l := l16_17 } : CacheS)) :: (RecsX (α := Ent) rw16_16 a16_16 c16_16 l16_16) :: (Asn.own b0_0 (.cells #[.int .i64 y3_1.fwd, .int .i64 y3_1.back, .int .i64 y3_1.line, .int .i64 (wr (cc.clock + (1 : Int))), .bool y3_1.dirty, .slice a3_1_00 (List.length y3_1.data) c3_1_00] 67 (0, 0))) :: Γ) (fun w hw => RChXA.shut (hw.pull .here)) ?_
      obtain rfl := someE H
      refine at_backR [.int .i64 (0)] ((RChA c ({ sets := cc.sets, ways := cc.ways, clock := wr (cc.clock + (1 : Int)), l := l16_17 } : CacheS)) :: Γ) (rs := [.tmp 4]) (by kernel_rfl) (.cons (.tmp (by kernel_rfl)) .nil) (fun w hw => (Sat.less (.take .here (.drop .here (.drop .here .refl))) hw)) ?_
      exact ⟨rfl, rfl⟩
    ·replace H := bifF H h4
     refine d_pure 2 62 (.bool false) (by kernel_rfl) (by kernel_rfl) (by kernel_rfl) (run_eq (v := .bool (decide ((0 : Int) < v0_6))) (fun _ => by kernel_rfl) (congrArg Value.bool h4)) ?_
     refine d_off 3 63 (by kernel_rfl) (by kernel_rfl) (by kernel_rfl) ?_
     refine d_off 4 64 (by kernel_rfl) (by kernel_rfl) (by kernel_rfl) ?_
     refine d_off 5 65 (by kernel_rfl) (by kernel_rfl) (by kernel_rfl) ?_
     refine d_off 6 66 (by kernel_rfl) (by kernel_rfl) (by kernel_rfl) ?_
     refine d_off 7 67 (by kernel_rfl) (by kernel_rfl) (by kernel_rfl) ?_
     refine d_off 8 68 (by kernel_rfl) (by kernel_rfl) (by kernel_rfl) ?_
     refine d_off 9 69 (by kernel_rfl) (by kernel_rfl) (by kernel_rfl) ?_
     refine d_off 10 70 (by kernel_rfl) (by kernel_rfl) (by kernel_rfl) ?_
     refine d_off 11 71 (by kernel_rfl) (by kernel_rfl) (by kernel_rfl) ?_
     refine d_off 12 72 (by kernel_rfl) (by kernel_rfl) (by kernel_rfl) ?_
     refine d_off 13 73 (by kernel_rfl) (by kernel_rfl) (by kernel_rfl) ?_
     refine d_off 14 74 (by kernel_rfl) (by kernel_rfl) (by kernel_rfl) ?_
     refine dp 15 75 (.bool false) ?_
     refine draw_end (by kernel_rfl) ?_
     refine ae [(0, .pointer (some ⟨c, 0, none⟩)), (3, .pointer (some ⟨b0_0, 0, none⟩)), (6, .int .i64 v0_6), (75, .bool false)] ?_
     refine at_then_normal ?_
     refine at_false (t := false) (x := C36 [1,1,1,1,1,1,1,1,0,0,0,0,1,0]) (y := C36 [1,1,1,1,1,1,1,1,0,0,0,0,1,1]) (o := .tmp 75) (by kernel_rfl) (by kernel_rfl) (by kernel_rfl) rfl ?_
     refine at_exit (i := 0) (by kernel_rfl) ?_
     refine at_then_exit ?_
     refine at_then_exit ?_
     rw [rputS_k0] at H
     refine ae [(0, .pointer (some ⟨c, 0, none⟩)), (3, .pointer (some ⟨b0_0, 0, none⟩)), (6, .int .i64 v0_6)] ?_
     refine At.conv (Γ' := (RChA c ({ sets := cc.sets, ways := cc.ways, clock := wr (cc.clock + (1 : Int)), l := cc.l } : CacheS)) :: (Asn.own b0_0 (.cells #[.int .i64 y3_1.fwd, .int .i64 y3_1.back, .int .i64 y3_1.line, .int .i64 (wr (cc.clock + (1 : Int))), .bool y3_1.dirty, .slice a3_1_00 (List.length y3_1.data) c3_1_00] 67 (0, 0))) :: (IntsA a3_1_00 c3_1_00 y3_1.data) :: Γ) (fun w hw => (Sat.less (.take .here (.take .here (.take .here .refl))) hw)) ?_
     refine at_in_here ?_
     refine at_then_normal ?_
     refine aq (x := C36 [1,1,1,1,1,1,1,1,1,0]) (y := C36 [1,1,1,1,1,1,1,1,1,1]) ?_
     refine at_region_draw (id := 16) (by kernel_rfl) (by kernel_rfl) ?_
     refine dp 0 78 (.pointer (some ⟨c, 0, none⟩)) ?_
     refine dp 1 79 (.pointer (some ⟨c, 0, none⟩)) ?_
     refine dp 2 80 (.pointer (some ⟨c, 0, none⟩)) ?_
     refine dp 3 81 (.pointer (some ⟨c, 3, none⟩)) ?_
     refine RChA.tox_draw .here ?_
     intro x16_4_c
     refine RChXA.open_draw .here ?_
     refine Draw.conv (Γ' := (Asn.own c (.cells #[.int .i64 cc.sets, .int .i64 cc.ways, .int .i64 (wr (cc.clock + (1 : Int))), .slice x16_4_c.a3 (List.length cc.l) x16_4_c.c3] x16_4_c.T (0, 0))) :: (RecsX (α := Ent) x16_4_c.r3 x16_4_c.a3 x16_4_c.c3 cc.l) :: (Asn.own b0_0 (.cells #[.int .i64 y3_1.fwd, .int .i64 y3_1.back, .int .i64 y3_1.line, .int .i64 (wr (cc.clock + (1 : Int))), .bool y3_1.dirty, .slice a3_1_00 (List.length y3_1.data) c3_1_00] 67 (0, 0))) :: (IntsA a3_1_00 c3_1_00 y3_1.data) :: Γ) (fun w hw => hw) (fun w hw => hw) ?_
     refine dl 4 82 (.slice x16_4_c.a3 (List.length cc.l) x16_4_c.c3) (load1 (off := 3) (fun _ => by kernel_rfl) (holds_own .here) (by kernel_rfl)) ?_
     refine dp 5 83 (.int .i64 v0_6) ?_
     refine dp 6 84 (.int .i64 v0_6) ?_
     obtain ⟨hc16_7_0, H⟩ := chkE H
     obtain ⟨l16_7, hl16_7, H⟩ := letE H
     refine Draw.known (p := (List.length cc.l) ≤ x16_4_c.c3) (fun w hw => (RecsX.len (hw.pull (.there .here))).2) ?_
     intro hcap3
     have hbl16_7 := hc16_7_0
     obtain ⟨a16_7, ha16_7⟩ : ∃ y : Option Addr, y = (if (v0_6).toNat = 0 then x16_4_c.a3 else Option.map (fun x => Addr.add x (0 * 6)) x16_4_c.a3) := ⟨_, rfl⟩
     have hrl16_7 : RecRd (α := Ent) W0 ((RecsX (α := Ent) x16_4_c.r3 x16_4_c.a3 x16_4_c.c3 cc.l) :: Γ) a16_7 ((x16_4_c.r3.drop 0).take ((v0_6).toNat - 0)) l16_7 := by rw [ha16_7]; exact RecRd.part (lo := 0) (hi := (v0_6).toNat) (RecsX.rd .here) hl16_7 (by omega)
     refine d_pure 7 85 (.slice a16_7 (List.length l16_7) ((v0_6).toNat - 0)) (by kernel_rfl) (by kernel_rfl) (by kernel_rfl) (run_eq (slice_at (t := 81) (lo := 0) (hi := (v0_6).toNat) (mx := (v0_6).toNat) (sz := 6) (E := 67) (a := x16_4_c.a3) (m := (List.length cc.l)) (c := x16_4_c.c3) none (some (.int .i64 v0_6)) (some (.int .i64 v0_6)) (tinfo 67) (fun _ => by kernel_rfl) (by kernel_rfl) (by kernel_rfl) (by kernel_rfl) (Or.inl ⟨rfl, rfl⟩) (Or.inr ⟨_, rfl, by omega⟩) (Or.inr ⟨_, rfl, by omega⟩) (by omega) (by omega) (by omega)) (by rw [← ha16_7, show (v0_6).toNat - 0 = List.length l16_7 from by rw [← hl16_7]; simp only [List.length_take, List.length_drop]; omega])) ?_
     refine dl 8 86 (.agg #[.int .i64 y3_1.fwd, .int .i64 y3_1.back, .int .i64 y3_1.line, .int .i64 (wr (cc.clock + (1 : Int))), .bool y3_1.dirty, .slice a3_1_00 (List.length y3_1.data) c3_1_00]) (loadN (off := 0) (vs := [.int .i64 y3_1.fwd, .int .i64 y3_1.back, .int .i64 y3_1.line, .int .i64 (wr (cc.clock + (1 : Int))), .bool y3_1.dirty, .slice a3_1_00 (List.length y3_1.data) c3_1_00]) 6 (fun _ => by kernel_rfl) (holds_own (.there (.there .here))) rfl (by exact ⟨rfl, rfl, rfl, rfl, rfl, rfl, trivial⟩)) ?_
     refine dp 10 88 (.pointer (some ⟨c, 0, none⟩)) ?_
     refine dp 11 89 (.pointer (some ⟨c, 0, none⟩)) ?_
     refine dp 12 90 (.pointer (some ⟨c, 3, none⟩)) ?_
     refine dl 13 91 (.slice x16_4_c.a3 (List.length cc.l) x16_4_c.c3) (load1 (off := 3) (fun _ => by kernel_rfl) (holds_own .here) (by kernel_rfl)) ?_
     refine dp 14 92 (.int .i64 v0_6) ?_
     obtain ⟨hc16_15_0, H⟩ := chkE H
     obtain ⟨l16_15, hl16_15, H⟩ := letE H
     refine Draw.known (p := (List.length cc.l) ≤ x16_4_c.c3) (fun w hw => (RecsX.len (hw.pull (.there .here))).2) ?_
     intro hcap4
     have hbl16_15 := hc16_15_0
     obtain ⟨a16_15, ha16_15⟩ : ∃ y : Option Addr, y = (if x16_4_c.c3 = (v0_6).toNat then x16_4_c.a3 else Option.map (fun x => Addr.add x ((v0_6).toNat * 6)) x16_4_c.a3) := ⟨_, rfl⟩
     have hrl16_15 : RecRd (α := Ent) W0 ((RecsX (α := Ent) x16_4_c.r3 x16_4_c.a3 x16_4_c.c3 cc.l) :: Γ) a16_15 ((x16_4_c.r3.drop (v0_6).toNat).take ((List.length cc.l) - (v0_6).toNat)) l16_15 := by rw [ha16_15]; exact RecRd.part (lo := (v0_6).toNat) (hi := (List.length cc.l)) (RecsX.rd .here) hl16_15 (by omega)
     refine d_pure 15 93 (.slice a16_15 (List.length l16_15) (x16_4_c.c3 - (v0_6).toNat)) (by kernel_rfl) (by kernel_rfl) (by kernel_rfl) (run_eq (slice_at (t := 81) (lo := (v0_6).toNat) (hi := (List.length cc.l)) (mx := x16_4_c.c3) (sz := 6) (E := 67) (a := x16_4_c.a3) (m := (List.length cc.l)) (c := x16_4_c.c3) (some (.int .i64 v0_6)) none none (tinfo 67) (fun _ => by kernel_rfl) (by kernel_rfl) (by kernel_rfl) (by kernel_rfl) (Or.inr ⟨_, rfl, by omega⟩) (Or.inl ⟨rfl, rfl, rfl⟩) (Or.inl ⟨rfl, rfl⟩) (by omega) (by omega) (by omega)) (by rw [← ha16_15, show (List.length cc.l) - (v0_6).toNat = List.length l16_15 from by rw [← hl16_15]; simp only [List.length_take, List.length_drop]; omega])) ?_
     refine d_step 9 87 [8] [15, 14, 12, 11, 10, 7, 6, 5, 3, 2, 1, 0] [13, 4] (by kernel_rfl) (by kernel_rfl) (by kernel_rfl) (st_new (T := 67) (cells := #[.int .i64 y3_1.fwd, .int .i64 y3_1.back, .int .i64 y3_1.line, .int .i64 (wr (cc.clock + (1 : Int))), .bool y3_1.dirty, .slice a3_1_00 (List.length y3_1.data) c3_1_00]) (fun a => .slice (some a) 1 1) (fun _ => by kernel_rfl)) ?_
     rintro _ _ ⟨b16_9, rfl, rfl⟩
     refine ⟨(stable_cons 13 91 (.slice x16_4_c.a3 (List.length cc.l) x16_4_c.c3) (by kernel_rfl) (by kernel_rfl) (by kernel_rfl) (load1 (off := 3) (fun _ => by kernel_rfl) (holds_own (.there .here)) (by kernel_rfl)) (stable_cons 4 82 (.slice x16_4_c.a3 (List.length cc.l) x16_4_c.c3) (by kernel_rfl) (by kernel_rfl) (by kernel_rfl) (load1 (off := 3) (fun _ => by kernel_rfl) (holds_own (.there .here)) (by kernel_rfl)) stable_nil)), ?_⟩
     refine Draw.convS (Γ' := (ImmI a3_1_00 y3_1.data) :: (Asn.own b16_9 (.cells #[.int .i64 y3_1.fwd, .int .i64 y3_1.back, .int .i64 y3_1.line, .int .i64 (wr (cc.clock + (1 : Int))), .bool y3_1.dirty, .slice a3_1_00 (List.length y3_1.data) c3_1_00] 67 (0, 0))) :: (Asn.own c (.cells #[.int .i64 cc.sets, .int .i64 cc.ways, .int .i64 (wr (cc.clock + (1 : Int))), .slice x16_4_c.a3 (List.length cc.l) x16_4_c.c3] x16_4_c.T (0, 0))) :: (RecsX (α := Ent) x16_4_c.r3 x16_4_c.a3 x16_4_c.c3 cc.l) :: (Asn.own b0_0 (.cells #[.int .i64 y3_1.fwd, .int .i64 y3_1.back, .int .i64 y3_1.line, .int .i64 (wr (cc.clock + (1 : Int))), .bool y3_1.dirty, .slice a3_1_00 (List.length y3_1.data) c3_1_00] 67 (0, 0))) :: Γ) (fun w hw => RowsA.freeze (hw.pull (.there (.there (.there (.there .here)))))) (stable_cons 13 91 (.slice x16_4_c.a3 (List.length cc.l) x16_4_c.c3) (by kernel_rfl) (by kernel_rfl) (by kernel_rfl) (load1 (off := 3) (fun _ => by kernel_rfl) (holds_own (.there (.there .here))) (by kernel_rfl)) (stable_cons 4 82 (.slice x16_4_c.a3 (List.length cc.l) x16_4_c.c3) (by kernel_rfl) (by kernel_rfl) (by kernel_rfl) (load1 (off := 3) (fun _ => by kernel_rfl) (holds_own (.there (.there .here))) (by kernel_rfl)) stable_nil)) ?_
     obtain ⟨hc16_16_0, H⟩ := chkE H
     obtain ⟨l16_16, hl16_16, H⟩ := letE H
     refine d_step 16 94 [9, 15, 8, 13, 14, 12, 11, 10] [7, 6, 5, 3, 2, 1, 0] [4] (by kernel_rfl) (by kernel_rfl) (by kernel_rfl) (StepTo.conv (Γ' := (RecsX (α := Ent) ([Rec.row (⟨y3_1.fwd, y3_1.back, y3_1.line, wr (cc.clock + (1 : Int)), y3_1.dirty, y3_1.data⟩ : Ent) a3_1_00 c3_1_00]) (some ⟨b16_9, 0, none⟩) 1 ([(⟨y3_1.fwd, y3_1.back, y3_1.line, wr (cc.clock + (1 : Int)), y3_1.dirty, y3_1.data⟩ : Ent)])) :: (Asn.own c (.cells #[.int .i64 cc.sets, .int .i64 cc.ways, .int .i64 (wr (cc.clock + (1 : Int))), .slice x16_4_c.a3 (List.length cc.l) x16_4_c.c3] x16_4_c.T (0, 0))) :: (RecsX (α := Ent) x16_4_c.r3 x16_4_c.a3 x16_4_c.c3 cc.l) :: (Asn.own b0_0 (.cells #[.int .i64 y3_1.fwd, .int .i64 y3_1.back, .int .i64 y3_1.line, .int .i64 (wr (cc.clock + (1 : Int))), .bool y3_1.dirty, .slice a3_1_00 (List.length y3_1.data) c3_1_00] 67 (0, 0))) :: Γ) (fun w hw => RecsX.of_own1 (α := Ent) (x := (⟨y3_1.fwd, y3_1.back, y3_1.line, wr (cc.clock + (1 : Int)), y3_1.dirty, y3_1.data⟩ : Ent)) (c2 := c3_1_00) rfl (Sat.less (.take (.there .here) (.take .here (.take .here (.take .here (.take .here .refl))))) hw)) (st_append_recs (α := Ent) (m1 := 1) (m2 := (List.length l16_15)) (cap2 := (x16_4_c.c3 - (v0_6).toNat)) (xs := [(⟨y3_1.fwd, y3_1.back, y3_1.line, wr (cc.clock + (1 : Int)), y3_1.dirty, y3_1.data⟩ : Ent)]) (ys := l16_15) (zs := l16_16) (info := tinfo 67) 64 (.agg #[.int .i64 (0), .int .i64 (0), .int .i64 (0), .int .i64 (0), .bool false, .slice none 0 0]) (m := List.length l16_16) 81 81 67 (fun _ => by kernel_rfl) (by kernel_rfl) (by kernel_rfl) (by kernel_rfl) (by kernel_rfl) (by kernel_rfl) (by kernel_rfl) (by kernel_rfl) (by kernel_rfl) .here (RecRd.less (.take (.there (.there .here)) (.drop .here (.drop .here (.drop .here .refl)))) hrl16_15) (by first | rfl | simp) (by first | rfl | simp) rfl hl16_16 (by rw [← hl16_16]; exact hc16_16_0))) ?_
     rintro _ _ ⟨a16_16, c16_16, rw16_16, rfl, rfl⟩
     refine ⟨(stable_cons 4 82 (.slice x16_4_c.a3 (List.length cc.l) x16_4_c.c3) (by kernel_rfl) (by kernel_rfl) (by kernel_rfl) (load1 (off := 3) (fun _ => by kernel_rfl) (holds_own (.there .here)) (by kernel_rfl)) stable_nil), ?_⟩
     obtain ⟨hc16_17_0, H⟩ := chkE H
     obtain ⟨l16_17, hl16_17, H⟩ := letE H
     refine d_step 17 95 [7, 16, 4, 5, 6, 9, 15, 3, 8, 13, 14, 2, 12, 1, 11, 10] [0] [] (by kernel_rfl) (by kernel_rfl) (by kernel_rfl) (StepTo.conv (Γ' := (RecsX (α := Ent) ((x16_4_c.r3.drop 0).take ((v0_6).toNat - 0)) a16_7 ((v0_6).toNat - 0) l16_7) :: (RecsX (α := Ent) rw16_16 a16_16 c16_16 l16_16) :: (Asn.own c (.cells #[.int .i64 cc.sets, .int .i64 cc.ways, .int .i64 (wr (cc.clock + (1 : Int))), .slice x16_4_c.a3 (List.length cc.l) x16_4_c.c3] x16_4_c.T (0, 0))) :: (Asn.own b0_0 (.cells #[.int .i64 y3_1.fwd, .int .i64 y3_1.back, .int .i64 y3_1.line, .int .i64 (wr (cc.clock + (1 : Int))), .bool y3_1.dirty, .slice a3_1_00 (List.length y3_1.data) c3_1_00] 67 (0, 0))) :: Γ) (fun w hw => RecsX.shrink (α := Ent) (hi := (v0_6).toNat) (mx := (v0_6).toNat) ha16_7 hl16_7 (by omega) (by omega) (Sat.less (.take (.there (.there .here)) (.take .here (.take .here (.take .here .refl)))) hw)) (st_append_recs (α := Ent) (m1 := (List.length l16_7)) (m2 := (List.length l16_16)) (cap2 := c16_16) (xs := l16_7) (ys := l16_16) (zs := l16_17) (info := tinfo 67) 64 (.agg #[.int .i64 (0), .int .i64 (0), .int .i64 (0), .int .i64 (0), .bool false, .slice none 0 0]) (m := List.length l16_17) 81 81 67 (fun _ => by kernel_rfl) (by kernel_rfl) (by kernel_rfl) (by kernel_rfl) (by kernel_rfl) (by kernel_rfl) (by kernel_rfl) (by kernel_rfl) (by kernel_rfl) .here (RecsX.rd (α := Ent) (.there .here)) (by first | rfl | simp) (by first | rfl | simp) rfl hl16_17 (by rw [← hl16_17]; exact hc16_17_0))) ?_
     rintro _ _ ⟨a16_17, c16_17, rw16_17, rfl, rfl⟩
     refine ⟨stable_nil, ?_⟩
     refine dp 18 96 (.pointer (some ⟨c, 0, none⟩)) ?_
     refine dp 19 97 (.pointer (some ⟨c, 3, none⟩)) ?_
     refine d_do 20 [19, 17, 0, 1, 2, 3, 4, 5, 6, 7, 8, 9, 10, 11, 12, 13, 14, 15, 16, 18] [] [] (by kernel_rfl) (by kernel_rfl) (by kernel_rfl) (st_store (off := 3) (vs := [.slice a16_17 (List.length l16_17) c16_17]) (c' := #[.int .i64 cc.sets, .int .i64 cc.ways, .int .i64 (wr (cc.clock + (1 : Int))), .slice a16_17 (List.length l16_17) c16_17]) (fun _ => by kernel_rfl) (.there (.there .here)) (by kernel_rfl) (by kernel_rfl) (by kernel_rfl)) ?_
     rintro _ _ ⟨rfl, rfl⟩
     refine ⟨stable_nil, ?_⟩
     refine draw_end (by kernel_rfl) ?_
     refine At.env [] trivial ?_
     refine at_then_normal ?_
     refine aq (x := C36 [1,1,1,1,1,1,1,1,1,1,0]) (y := C36 [1,1,1,1,1,1,1,1,1,1,1]) ?_
     refine ar (id := 17) 1 ?_
     refine sp 4 (.int .i64 (0)) ?_
     refine ops_end ?_
     refine ae [(4, .int .i64 (0))] ?_
     refine at_then_normal ?_
     refine at_ret (by kernel_rfl) ?_
     refine At.conv (Γ' := (RChXA c (⟨a16_17, c16_17, rw16_17, x16_4_c.T⟩ : RChXP) ({ sets := cc.sets, ways := cc.ways, clock := wr (cc.clock + (1 : Int)), l := l16_17 } : CacheS)) :: (RecsX (α := Ent) rw16_16 a16_16 c16_16 l16_16) :: (Asn.own b0_0 (.cells #[.int .i64 y3_1.fwd, .int .i64 y3_1.back, .int .i64 y3_1.line, .int .i64 (wr (cc.clock + (1 : Int))), .bool y3_1.dirty, .slice a3_1_00 (List.length y3_1.data) c3_1_00] 67 (0, 0))) :: Γ) (fun w hw => RChXA.close (x := (⟨a16_17, c16_17, rw16_17, x16_4_c.T⟩ : RChXP)) (t := ({ sets := cc.sets, ways := cc.ways, clock := wr (cc.clock + (1 : Int)), l := l16_17 } : CacheS)) (Sat.less (.take .here (.take .here (.take .here (.take .here .refl)))) hw)) ?_
     refine At.conv (Γ' := (RChA c ({ sets := cc.sets, ways := cc.ways, clock := wr (cc.clock + (1 : Int)), l := l16_17 } : CacheS)) :: (RecsX (α := Ent) rw16_16 a16_16 c16_16 l16_16) :: (Asn.own b0_0 (.cells #[.int .i64 y3_1.fwd, .int .i64 y3_1.back, .int .i64 y3_1.line, .int .i64 (wr (cc.clock + (1 : Int))), .bool y3_1.dirty, .slice a3_1_00 (List.length y3_1.data) c3_1_00] 67 (0, 0))) :: Γ) (fun w hw => RChXA.shut (hw.pull .here)) ?_
     obtain rfl := someE H
     refine at_backR [.int .i64 (0)] ((RChA c ({ sets := cc.sets, ways := cc.ways, clock := wr (cc.clock + (1 : Int)), l := l16_17 } : CacheS)) :: Γ) (rs := [.tmp 4]) (by kernel_rfl) (.cons (.tmp (by kernel_rfl)) .nil) (fun w hw => (Sat.less (.take .here (.drop .here (.drop .here .refl))) hw)) ?_
     exact ⟨rfl, rfl⟩
end Go.Proofs.Ytlnjnkbnppnbkaa
