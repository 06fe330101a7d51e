/- The rows of a home: each function answers what its plain function says. -/
import Derived.Test.YtcigheahollkcaaSlObjH
namespace Go.Proofs.Ytcigheahollkcaa
open Go Go.RowKit
set_option linter.unusedVariables false
set_option linter.unusedSimpArgs false
def mnewS_k0 (e0_13 : Int) (e0_b1_3 : DirS) : Option (DirS) :=
 some e0_b1_3
def mnewS_l0 (c : CfgS) (node : Int) (k0 : Int → DirS → Option (DirS)) : Nat → Int → DirS → Option (DirS)
 | 0 => fun _ _ => none
 | m + 1 => fun v0_13 v0_b1_3 => (bif decide (v0_13 < c.lines) then (phomeS c v0_13).bind fun y5_2 => (bif decide (y5_2 = node) then (pwordsS c v0_13).bind fun y6_7 => letP (mset v0_b1_3.rows v0_13 (⟨0, (-1), y6_7⟩ : RowS)) fun m6_9 => chk (inR (v0_13 + (1 : Int))) ((mnewS_l0 c node k0 m) (v0_13 + (1 : Int)) ({ c := v0_b1_3.c, rows := m6_9 } : DirS)) else chk (inR (v0_13 + (1 : Int))) ((mnewS_l0 c node k0 m) (v0_13 + (1 : Int)) v0_b1_3)) else k0 v0_13 v0_b1_3)
def mnewS (c : CfgS) (node : Int) : Option (DirS) :=
 mnewS_l0 c node (mnewS_k0 ) 64 0 ({ c := c, rows := ([] : List (Int × RowS)) } : DirS)
noncomputable def C25 (p : List Nat) : Code := codeAt (bodyOf Try.f25) p
set_option maxRecDepth 100000 in
set_option maxHeartbeats 8000000 in
theorem MNewF_tr {W0 : World} {Γ : List Asn} (ca : Option Addr) (ccap : Nat) (c : CfgS) (node : Int) (hcca : c.init.length ≤ ccap) (y : DirS) (H : mnewS c node = some y) : Tr Try.prog 25 #[.agg #[iv c.nodes, iv c.lines, iv c.words, iv c.sets, iv c.ways, iv c.out, iv c.inn, .slice ca (List.length c.init) ccap], iv node] W0 ((ImmI ca c.init) :: Γ) (fun r Δ => ∃ (b0 : Nat), r = .pointer (some ⟨b0, 0, none⟩) ∧ Δ = (DirA b0 y) :: Γ) := by
 unfold mnewS at H
 refine Tr.enter (fn := Try.f25) (c := C25 []) (args := [.agg #[iv c.nodes, iv c.lines, iv c.words, iv c.sets, iv c.ways, iv c.out, iv c.inn, .slice ca (List.length c.init) ccap], iv node]) 32 Try.func25 kf kf ?_
 refine ae [(0, .agg #[iv c.nodes, iv c.lines, iv c.words, iv c.sets, iv c.ways, iv c.out, iv c.inn, .slice ca (List.length c.init) ccap]), (1, iv node)] ?_
 refine aq (x := C25 [0]) (y := C25 [1]) ?_
 refine ar (id := 0) 2 ?_
 refine s_step 2 kf kf (st_new (T := 26) (cells := #[iv c.nodes, iv c.lines, iv c.words, iv c.sets, iv c.ways, iv c.out, iv c.inn, .slice ca (List.length c.init) ccap]) (fun a => .pointer (some a)) (fun _ => kf)) ?_
 rintro _ _ ⟨b0_0, rfl, rfl⟩
 refine sp 4 (.pointer none) ?_
 refine ops_end ?_
 refine ae [(1, iv node), (2, .pointer (some ⟨b0_0, 0, none⟩))] ?_
 refine at_then_normal ?_
 refine aq (x := C25 [1,0]) (y := C25 [1,1]) ?_
 refine ar (id := 1) 5 ?_
 refine sl 7 (.agg #[iv c.nodes, iv c.lines, iv c.words, iv c.sets, iv c.ways, iv c.out, iv c.inn, .slice ca (List.length c.init) ccap]) (loadN (off := 0) (vs := [iv c.nodes, iv c.lines, iv c.words, iv c.sets, iv c.ways, iv c.out, iv c.inn, .slice ca (List.length c.init) ccap]) 8 (fun _ => kf) (holds_own .here) rfl (by exact ⟨rfl, rfl, rfl, rfl, rfl, rfl, rfl, rfl, trivial⟩)) ?_
 refine s_step 8 kf kf (st_kmap_make (t := 96) (fun _ => kf)) ?_
 rintro _ _ ⟨m1_1, rfl, rfl⟩
 refine At.conv (Γ' := (RMapX (α := RowS) ([] : List (Int × Value)) m1_1 ([] : List (Int × RowS))) :: (Asn.own b0_0 (.cells #[iv c.nodes, iv c.lines, iv c.words, iv c.sets, iv c.ways, iv c.out, iv c.inn, .slice ca (List.length c.init) ccap] 26 (0, 0))) :: (ImmI ca c.init) :: Γ) (fun w hw => RMapX.nil (α := RowS) hw) ?_
 refine sp 9 (.agg #[iv c.nodes, iv c.lines, iv c.words, iv c.sets, iv c.ways, iv c.out, iv c.inn, .slice ca (List.length c.init) ccap, .map (some m1_1)]) ?_
 refine s_step 10 kf kf (st_new (T := 98) (cells := #[iv c.nodes, iv c.lines, iv c.words, iv c.sets, iv c.ways, iv c.out, iv c.inn, .slice ca (List.length c.init) ccap, .map (some m1_1)]) (fun a => .pointer (some a)) (fun _ => kf)) ?_
 rintro _ _ ⟨b1_3, rfl, rfl⟩
 refine sp 5 (.pointer (some ⟨b1_3, 0, none⟩)) ?_
 refine ops_end ?_
 refine ae [(1, iv node), (2, .pointer (some ⟨b0_0, 0, none⟩)), (5, .pointer (some ⟨b1_3, 0, none⟩))] ?_
 refine at_then_normal ?_
 refine At.conv (Γ' := (DirXA b1_3 (⟨ca, ccap, m1_1, ([] : List (Int × Value)), 98⟩ : DirXP) ({ c := c, rows := ([] : List (Int × RowS)) } : DirS)) :: (ImmI ca c.init) :: (Asn.own b0_0 (.cells #[iv c.nodes, iv c.lines, iv c.words, iv c.sets, iv c.ways, iv c.out, iv c.inn, .slice ca (List.length c.init) ccap] 26 (0, 0))) :: Γ) (fun w hw => DirXA.close (x := (⟨ca, ccap, m1_1, ([] : List (Int × Value)), 98⟩ : DirXP)) (t := ({ c := c, rows := ([] : List (Int × RowS)) } : DirS)) (Sat.less (.take (.there (.there .here)) (.take .here (.take (.there .here) (.take .here (.take .here .refl))))) (ImmR.dup (Sat.less (.take (.there (.there (.there .here))) (.take .here (.take .here (.take .here .refl)))) hw)))) ?_
 refine At.conv (Γ' := (DirA b1_3 ({ c := c, rows := ([] : List (Int × RowS)) } : DirS)) :: (ImmI ca c.init) :: (Asn.own b0_0 (.cells #[iv c.nodes, iv c.lines, iv c.words, iv c.sets, iv c.ways, iv c.out, iv c.inn, .slice ca (List.length c.init) ccap] 26 (0, 0))) :: Γ) (fun w hw => DirXA.shut (hw.pull .here)) ?_
 refine aq (x := C25 [1,1,0]) (y := C25 [1,1,1]) ?_
 refine aq (x := C25 [1,1,0,0]) (y := C25 [1,1,0,1]) ?_
 refine ar (id := 2) 3 ?_
 refine sp 11 (.pointer (some ⟨b0_0, 1, none⟩)) ?_
 refine sl 12 (iv c.lines) (load1 (off := 1) (fun _ => kf) (holds_own (.there (.there .here))) kf) ?_
 refine sp 13 (iv (0)) ?_
 refine ops_end ?_
 refine ae [(1, iv node), (2, .pointer (some ⟨b0_0, 0, none⟩)), (5, .pointer (some ⟨b1_3, 0, none⟩)), (12, iv c.lines), (13, iv (0))] ?_
 refine at_then_normal ?_
 refine at_block (i := 0) (x := C25 [1,1,0,1,0]) kf ?_
 refine At.conv (Γ' := (DirA b1_3 ({ c := c, rows := ([] : List (Int × RowS)) } : DirS)) :: (ImmI ca c.init) :: (Asn.own b0_0 (.cells #[iv c.nodes, iv c.lines, iv c.words, iv c.sets, iv c.ways, iv c.out, iv c.inn, .slice ca (List.length c.init) ccap] 26 (0, 0))) :: Γ) (fun w hw => (Sat.less (.take .here (.take .here (.take .here .refl))) hw)) ?_
 refine at_loopR (x := C25 [1,1,0,1,0,0]) (fun mm ff ΔΔ => ∃ (fuel : Nat) (v0_13 : Int) (v0_b1_3 : DirS), mnewS_l0 c node (mnewS_k0 ) fuel v0_13 v0_b1_3 = some y ∧ fuel = mm ∧ ff = [(1, iv node), (2, .pointer (some ⟨b0_0, 0, none⟩)), (5, .pointer (some ⟨b1_3, 0, none⟩)), (12, iv c.lines), (13, iv v0_13)] ∧ (DirA b1_3 v0_b1_3) :: (ImmI ca c.init) :: (Asn.own b0_0 (.cells #[iv c.nodes, iv c.lines, iv c.words, iv c.sets, iv c.ways, iv c.out, iv c.inn, .slice ca (List.length c.init) ccap] 26 (0, 0))) :: Γ = ΔΔ) (64) kf [(1, iv node), (2, .pointer (some ⟨b0_0, 0, none⟩)), (5, .pointer (some ⟨b1_3, 0, none⟩)), (12, iv c.lines), (13, iv 0)] ⟨kf, kf, kf, kf, kf, trivial⟩ ⟨64, 0, ({ c := c, rows := ([] : List (Int × RowS)) } : DirS), H, rfl, rfl, rfl⟩ ?_
 rintro _ _ _ ⟨fuel1, v0_13, v0_b1_3, H, rfl, rfl, rfl⟩
 rcases fuel1 with _ | fuel1
 ·exact (noneE H).elim
 rw [mnewS_l0] at H
 refine aq (x := C25 [1,1,0,1,0,0,0]) (y := C25 [1,1,0,1,0,0,1]) ?_
 refine ar (id := 3) 1 ?_
 refine sp 14 (.bool (decide (v0_13 < c.lines))) ?_
 refine ops_end ?_
 refine ae [(1, iv node), (2, .pointer (some ⟨b0_0, 0, none⟩)), (5, .pointer (some ⟨b1_3, 0, none⟩)), (12, iv c.lines), (13, iv v0_13), (14, .bool (decide (v0_13 < c.lines)))] ?_
 refine at_then_normal ?_
 refine aq (x := C25 [1,1,0,1,0,0,1,0]) (y := C25 [1,1,0,1,0,0,1,1]) ?_
 rcases Bool.eq_false_or_eq_true (decide (v0_13 < c.lines)) with h1 | h1
 ·replace H := bifT H h1
  refine at_true (t := decide (v0_13 < c.lines)) (x := C25 [1,1,0,1,0,0,1,0,0]) (y := C25 [1,1,0,1,0,0,1,0,1]) (o := .tmp 14) kf kf kf h1 ?_
  refine at_skip kf ?_
  refine at_then_normal ?_
  refine aq (x := C25 [1,1,0,1,0,0,1,1,0]) (y := C25 [1,1,0,1,0,0,1,1,1]) ?_
  refine at_block (i := 1) (x := C25 [1,1,0,1,0,0,1,1,0,0]) kf ?_
  refine aq (x := C25 [1,1,0,1,0,0,1,1,0,0,0]) (y := C25 [1,1,0,1,0,0,1,1,0,0,1]) ?_
  refine ar (id := 4) 2 ?_
  refine sp 15 (iv v0_13) ?_
  refine sp 6 (iv v0_13) ?_
  refine ops_end ?_
  refine ae [(1, iv node), (2, .pointer (some ⟨b0_0, 0, none⟩)), (5, .pointer (some ⟨b1_3, 0, none⟩)), (6, iv v0_13), (12, iv c.lines), (13, iv v0_13)] ?_
  refine at_then_normal ?_
  refine aq (x := C25 [1,1,0,1,0,0,1,1,0,0,1,0]) (y := C25 [1,1,0,1,0,0,1,1,0,0,1,1]) ?_
  refine ar (id := 5) 5 ?_
  refine sl 16 (.agg #[iv c.nodes, iv c.lines, iv c.words, iv c.sets, iv c.ways, iv c.out, iv c.inn, .slice ca (List.length c.init) ccap]) (loadN (off := 0) (vs := [iv c.nodes, iv c.lines, iv c.words, iv c.sets, iv c.ways, iv c.out, iv c.inn, .slice ca (List.length c.init) ccap]) 8 (fun _ => kf) (holds_own (.there (.there .here))) rfl (by exact ⟨rfl, rfl, rfl, rfl, rfl, rfl, rfl, rfl, trivial⟩)) ?_
  refine sp 17 (iv v0_13) ?_
  obtain ⟨y5_2, hy5_2, H⟩ := bindE H
  refine s_call 18 28 #[.agg #[iv c.nodes, iv c.lines, iv c.words, iv c.sets, iv c.ways, iv c.out, iv c.inn, .slice ca (List.length c.init) ccap], iv v0_13] kf kf (fun _ => kf) (PHomeF_tr ca ccap c v0_13 (ImmR.reads (k := 1) (.there .here)) y5_2 hy5_2) ?_
  rintro _ _ ⟨rfl, rfl⟩
  refine sp 19 (iv node) ?_
  refine sp 20 (.bool (decide (y5_2 = node))) ?_
  refine ops_end ?_
  refine ae [(1, iv node), (2, .pointer (some ⟨b0_0, 0, none⟩)), (5, .pointer (some ⟨b1_3, 0, none⟩)), (6, iv v0_13), (12, iv c.lines), (13, iv v0_13), (20, .bool (decide (y5_2 = node)))] ?_
  refine at_then_normal ?_
  rcases Bool.eq_false_or_eq_true (decide (y5_2 = node)) with h2 | h2
  ·replace H := bifT H h2
   refine at_true (t := decide (y5_2 = node)) (x := C25 [1,1,0,1,0,0,1,1,0,0,1,1,0]) (y := C25 [1,1,0,1,0,0,1,1,0,0,1,1,1]) (o := .tmp 20) kf kf kf h2 ?_
   refine at_region_draw (id := 6) kf kf ?_
   refine dp 0 21 (.pointer (some ⟨b1_3, 0, none⟩)) ?_
   refine dp 1 22 (.pointer (some ⟨b1_3, 0, none⟩)) ?_
   refine dp 2 23 (.pointer (some ⟨b1_3, 8, none⟩)) ?_
   refine DirA.tox_draw .here ?_
   intro x6_3_b1_3
   refine DirXA.open_draw .here ?_
   refine dl 3 24 (.map (some x6_3_b1_3.b8)) (load1 (off := 8) (fun _ => kf) (holds_own .here) kf) ?_
   refine dp 4 25 (iv v0_13) ?_
   refine dl 5 26 (.agg #[iv c.nodes, iv c.lines, iv c.words, iv c.sets, iv c.ways, iv c.out, iv c.inn, .slice ca (List.length c.init) ccap]) (loadN (off := 0) (vs := [iv c.nodes, iv c.lines, iv c.words, iv c.sets, iv c.ways, iv c.out, iv c.inn, .slice ca (List.length c.init) ccap]) 8 (fun _ => kf) (holds_own (.there (.there (.there (.there .here))))) rfl (by exact ⟨rfl, rfl, rfl, rfl, rfl, rfl, rfl, rfl, trivial⟩)) ?_
   refine dp 6 27 (iv v0_13) ?_
   obtain ⟨y6_7, hy6_7, H⟩ := bindE H
   refine d_call 7 28 [5, 6] [4, 2, 1, 0] [3] 47 #[.agg #[iv c.nodes, iv c.lines, iv c.words, iv c.sets, iv c.ways, iv c.out, iv c.inn, .slice ca (List.length c.init) ccap], iv v0_13] kf kf kf (fun _ => kf) (PWordsF_tr ca ccap c v0_13 (ImmR.reads (k := 1) (.there (.there (.there .here)))) hcca y6_7 hy6_7) ?_
   rintro _ _ ⟨a6_7_00, c6_7_00, rfl, rfl⟩
   refine ⟨(stable_cons 3 24 (.map (some x6_3_b1_3.b8)) kf kf kf (load1 (off := 8) (fun _ => kf) (holds_own (.there .here)) kf) stable_nil), ?_⟩
   refine dp 8 29 (.agg #[iv (0), iv (-1), .slice a6_7_00 (List.length y6_7) c6_7_00]) ?_
   refine Draw.convS (Γ' := (ImmI a6_7_00 y6_7) :: (Asn.own b1_3 (.cells #[iv v0_b1_3.c.nodes, iv v0_b1_3.c.lines, iv v0_b1_3.c.words, iv v0_b1_3.c.sets, iv v0_b1_3.c.ways, iv v0_b1_3.c.out, iv v0_b1_3.c.inn, .slice x6_3_b1_3.a7 (List.length v0_b1_3.c.init) x6_3_b1_3.c7, .map (some x6_3_b1_3.b8)] x6_3_b1_3.T (0, 0))) :: (ImmI x6_3_b1_3.a7 v0_b1_3.c.init) :: (RMapX (α := RowS) x6_3_b1_3.v8 x6_3_b1_3.b8 v0_b1_3.rows) :: (ImmI ca c.init) :: (Asn.own b0_0 (.cells #[iv c.nodes, iv c.lines, iv c.words, iv c.sets, iv c.ways, iv c.out, iv c.inn, .slice ca (List.length c.init) ccap] 26 (0, 0))) :: Γ) (fun w hw => RowsA.freeze (hw.pull .here)) (stable_cons 3 24 (.map (some x6_3_b1_3.b8)) kf kf kf (load1 (off := 8) (fun _ => kf) (holds_own (.there .here)) kf) stable_nil) ?_
   obtain ⟨m6_9, hm6_9, H⟩ := letE H
   refine d_do 9 [3, 4, 8, 7, 0, 1, 2, 5, 6] [] [] kf kf kf (st_rset (α := RowS) (x := (⟨0, (-1), y6_7⟩ : RowS)) (a := a6_7_00) (c := c6_7_00) (v := .agg #[iv (0), iv (-1), .slice a6_7_00 (List.length y6_7) c6_7_00]) (t := 96) (Kt := 3) (V := 92) (ik := .i64) (k := v0_13) (by rfl) (fun _ => kf) kf kf (.there (.there (.there .here))) .here) ?_
   rintro _ _ ⟨rfl, rfl⟩
   rw [hm6_9]
   refine ⟨stable_nil, ?_⟩
   refine draw_end kf ?_
   refine ae [(1, iv node), (2, .pointer (some ⟨b0_0, 0, none⟩)), (5, .pointer (some ⟨b1_3, 0, none⟩)), (12, iv c.lines), (13, iv v0_13)] ?_
   refine at_in_normal ?_
   refine at_then_normal ?_
   refine ar (id := 7) 2 ?_
   obtain ⟨hc7_0_0, H⟩ := chkE H
   refine sr 30 (iv (v0_13 + (1 : Int))) (run_eq (v := iv (IntKind.i64.wrap (v0_13 + (1 : Int)))) (fun _ => kf) (by rw [inR.wrap hc7_0_0])) ?_
   refine sp 13 (iv (v0_13 + (1 : Int))) ?_
   refine ops_end ?_
   refine ae [(1, iv node), (2, .pointer (some ⟨b0_0, 0, none⟩)), (5, .pointer (some ⟨b1_3, 0, none⟩)), (12, iv c.lines), (13, iv (v0_13 + (1 : Int)))] ?_
   refine at_round_normal ?_
   refine At.conv (Γ' := (DirXA b1_3 (⟨x6_3_b1_3.a7, x6_3_b1_3.c7, x6_3_b1_3.b8, mset x6_3_b1_3.v8 v0_13 (.agg #[iv (0), iv (-1), .slice a6_7_00 (List.length y6_7) c6_7_00]), x6_3_b1_3.T⟩ : DirXP) ({ c := v0_b1_3.c, rows := m6_9 } : DirS)) :: (ImmI x6_3_b1_3.a7 v0_b1_3.c.init) :: (ImmI a6_7_00 y6_7) :: (ImmI ca c.init) :: (Asn.own b0_0 (.cells #[iv c.nodes, iv c.lines, iv c.words, iv c.sets, iv c.ways, iv c.out, iv c.inn, .slice ca (List.length c.init) ccap] 26 (0, 0))) :: Γ) (fun w hw => DirXA.close (x := (⟨x6_3_b1_3.a7, x6_3_b1_3.c7, x6_3_b1_3.b8, mset x6_3_b1_3.v8 v0_13 (.agg #[iv (0), iv (-1), .slice a6_7_00 (List.length y6_7) c6_7_00]), x6_3_b1_3.T⟩ : DirXP)) (t := ({ c := v0_b1_3.c, rows := m6_9 } : DirS)) (Sat.less (.take (.there (.there (.there (.there .here)))) (.take .here (.take (.there .here) (.take .here (.take .here (.take .here (.take .here .refl))))))) (ImmR.dup (Sat.less (.take (.there (.there (.there .here))) (.take .here (.take .here (.take .here (.take .here (.take .here .refl)))))) hw)))) ?_
   refine At.conv (Γ' := (DirA b1_3 ({ c := v0_b1_3.c, rows := m6_9 } : DirS)) :: (ImmI x6_3_b1_3.a7 v0_b1_3.c.init) :: (ImmI a6_7_00 y6_7) :: (ImmI ca c.init) :: (Asn.own b0_0 (.cells #[iv c.nodes, iv c.lines, iv c.words, iv c.sets, iv c.ways, iv c.out, iv c.inn, .slice ca (List.length c.init) ccap] 26 (0, 0))) :: Γ) (fun w hw => DirXA.shut (hw.pull .here)) ?_
   exact at_roundR fuel1 [(1, iv node), (2, .pointer (some ⟨b0_0, 0, none⟩)), (5, .pointer (some ⟨b1_3, 0, none⟩)), (12, iv c.lines), (13, iv (v0_13 + (1 : Int)))] ((DirA b1_3 ({ c := v0_b1_3.c, rows := m6_9 } : DirS)) :: (ImmI ca c.init) :: (Asn.own b0_0 (.cells #[iv c.nodes, iv c.lines, iv c.words, iv c.sets, iv c.ways, iv c.out, iv c.inn, .slice ca (List.length c.init) ccap] 26 (0, 0))) :: Γ) (Nat.lt_succ_self _) ⟨kf, kf, kf, kf, kf, trivial⟩ (fun w hw => (Sat.less (.take .here (.take (.there (.there .here)) (.take (.there (.there .here)) (.drop .here (.drop .here .refl))))) hw)) ⟨fuel1, v0_13 + (1 : Int), ({ c := v0_b1_3.c, rows := m6_9 } : DirS), H, rfl, rfl, rfl⟩
  ·replace H := bifF H h2
   refine at_false (t := decide (y5_2 = node)) (x := C25 [1,1,0,1,0,0,1,1,0,0,1,1,0]) (y := C25 [1,1,0,1,0,0,1,1,0,0,1,1,1]) (o := .tmp 20) kf kf kf h2 ?_
   refine at_skip kf ?_
   refine at_in_normal ?_
   refine at_then_normal ?_
   refine ar (id := 7) 2 ?_
   obtain ⟨hc7_0_0, H⟩ := chkE H
   refine sr 30 (iv (v0_13 + (1 : Int))) (run_eq (v := iv (IntKind.i64.wrap (v0_13 + (1 : Int)))) (fun _ => kf) (by rw [inR.wrap hc7_0_0])) ?_
   refine sp 13 (iv (v0_13 + (1 : Int))) ?_
   refine ops_end ?_
   refine ae [(1, iv node), (2, .pointer (some ⟨b0_0, 0, none⟩)), (5, .pointer (some ⟨b1_3, 0, none⟩)), (12, iv c.lines), (13, iv (v0_13 + (1 : Int)))] ?_
   refine at_round_normal ?_
   exact at_roundR fuel1 [(1, iv node), (2, .pointer (some ⟨b0_0, 0, none⟩)), (5, .pointer (some ⟨b1_3, 0, none⟩)), (12, iv c.lines), (13, iv (v0_13 + (1 : Int)))] ((DirA b1_3 v0_b1_3) :: (ImmI ca c.init) :: (Asn.own b0_0 (.cells #[iv c.nodes, iv c.lines, iv c.words, iv c.sets, iv c.ways, iv c.out, iv c.inn, .slice ca (List.length c.init) ccap] 26 (0, 0))) :: Γ) (Nat.lt_succ_self _) ⟨kf, kf, kf, kf, kf, trivial⟩ (fun w hw => (Sat.less (.take .here (.take .here (.take .here .refl))) hw)) ⟨fuel1, v0_13 + (1 : Int), v0_b1_3, H, rfl, rfl, rfl⟩
 ·replace H := bifF H h1
  refine at_false (t := decide (v0_13 < c.lines)) (x := C25 [1,1,0,1,0,0,1,0,0]) (y := C25 [1,1,0,1,0,0,1,0,1]) (o := .tmp 14) kf kf kf h1 ?_
  refine at_exit (i := 0) kf ?_
  refine at_then_exit ?_
  refine at_then_exit ?_
  rw [mnewS_k0] at H
  refine ae [(1, iv node), (2, .pointer (some ⟨b0_0, 0, none⟩)), (5, .pointer (some ⟨b1_3, 0, none⟩)), (12, iv c.lines), (13, iv v0_13)] ?_
  refine At.conv (Γ' := (DirA b1_3 v0_b1_3) :: (ImmI ca c.init) :: (Asn.own b0_0 (.cells #[iv c.nodes, iv c.lines, iv c.words, iv c.sets, iv c.ways, iv c.out, iv c.inn, .slice ca (List.length c.init) ccap] 26 (0, 0))) :: Γ) (fun w hw => (Sat.less (.take .here (.take .here (.take .here .refl))) hw)) ?_
  refine at_in_here ?_
  refine at_then_normal ?_
  refine aq (x := C25 [1,1,1,0]) (y := C25 [1,1,1,1]) ?_
  refine ar (id := 8) 2 ?_
  refine sp 31 (.pointer (some ⟨b1_3, 0, none⟩)) ?_
  refine sp 4 (.pointer (some ⟨b1_3, 0, none⟩)) ?_
  refine ops_end ?_
  refine ae [(4, .pointer (some ⟨b1_3, 0, none⟩))] ?_
  refine at_then_normal ?_
  refine at_ret kf ?_
  obtain rfl := someE H
  refine at_backR [.pointer (some ⟨b1_3, 0, none⟩)] ((DirA b1_3 v0_b1_3) :: Γ) (rs := [.tmp 4]) kf (.cons (.tmp kf) .nil) (fun w hw => (Sat.less (.take .here (.drop .here (.drop .here .refl))) hw)) ?_
  exact ⟨b1_3, rfl, rfl⟩
def mrowS (dc : DirS) (line : Int) : Option (RowS × Bool) :=
 letP (mget dc.rows line) fun y1_5 => letP (Option.getD y1_5 (Rec.zero : RowS)) fun x1_5 => (copyS x1_5.data).bind fun y2_2 => some ((⟨x1_5.state, x1_5.head, y2_2⟩ : RowS), y1_5.isSome)
noncomputable def C44 (p : List Nat) : Code := codeAt (bodyOf Try.f44) p
set_option maxRecDepth 100000 in
set_option maxHeartbeats 8000000 in
theorem MRowF_tr {W0 : World} {Γ : List Asn} (d : Nat) (dc : DirS) (line : Int)  (y : RowS × Bool) (H : mrowS dc line = some y) : Tr Try.prog 44 #[.pointer (some ⟨d, 0, none⟩), iv line] W0 ((DirA d dc) :: Γ) (fun r Δ => ∃ (a0_0 : Option Addr) (c0_0 : Nat), r = .tuple #[.agg #[iv y.1.state, iv y.1.head, .slice a0_0 (List.length y.1.data) c0_0], .bool y.2] ∧ Δ = (IntsA a0_0 c0_0 y.1.data) :: (DirA d dc) :: Γ) := by
 unfold mrowS at H
 refine Tr.enter (fn := Try.f44) (c := C44 []) (args := [.pointer (some ⟨d, 0, none⟩), iv line]) 23 Try.func44 kf kf ?_
 refine ae [(0, .pointer (some ⟨d, 0, none⟩)), (1, iv line)] ?_
 refine aq (x := C44 [0]) (y := C44 [1]) ?_
 refine ar (id := 0) 2 ?_
 refine s_step 4 kf kf (st_new (T := 92) (cells := #[iv (0), iv (0), .slice none 0 0]) (fun a => .pointer (some a)) (fun _ => kf)) ?_
 rintro _ _ ⟨b0_0, rfl, rfl⟩
 refine sp 5 (.bool false) ?_
 refine ops_end ?_
 refine ae [(0, .pointer (some ⟨d, 0, none⟩)), (1, iv line), (4, .pointer (some ⟨b0_0, 0, none⟩))] ?_
 refine at_then_normal ?_
 refine aq (x := C44 [1,0]) (y := C44 [1,1]) ?_
 refine ar (id := 1) 12 ?_
 refine sp 9 (.pointer (some ⟨d, 0, none⟩)) ?_
 refine sp 10 (.pointer (some ⟨d, 0, none⟩)) ?_
 refine sp 11 (.pointer (some ⟨d, 8, none⟩)) ?_
 refine DirA.tox (.there .here) ?_
 intro x1_3_d
 refine DirXA.open .here ?_
 refine sl 12 (.map (some x1_3_d.b8)) (load1 (off := 8) (fun _ => kf) (holds_own .here) kf) ?_
 refine sp 13 (iv line) ?_
 obtain ⟨y1_5, hy1_5, H⟩ := letE H
 obtain ⟨x1_5, hx1_5, H⟩ := letE H
 refine rmap_get (α := RowS) (zv := .agg #[iv (0), iv (0), .slice none 0 0]) (by rfl) (by rfl) (.there (.there .here)) line ?_
 intro a1_5 c1_5 hv1_5 hs1_5
 rw [hy1_5] at hv1_5 hs1_5 ⊢
 rw [hx1_5] at hv1_5 ⊢
 refine sl 14 (.tuple #[.agg #[iv x1_5.state, iv x1_5.head, .slice a1_5 (List.length x1_5.data) c1_5], .bool y1_5.isSome]) (rmap_lookup2 (t := 96) (Kt := 3) (V := 92) (ik := .i64) (k := line) (info := tinfo 92) (v := .agg #[iv x1_5.state, iv x1_5.head, .slice a1_5 (List.length x1_5.data) c1_5]) hv1_5 hs1_5 (fun _ => kf) kf kf kf kf (.there (.there (.there .here)))) ?_
 refine sp 8 (.tuple #[.agg #[iv x1_5.state, iv x1_5.head, .slice a1_5 (List.length x1_5.data) c1_5], .bool y1_5.isSome]) ?_
 refine sp 15 (.agg #[iv x1_5.state, iv x1_5.head, .slice a1_5 (List.length x1_5.data) c1_5]) ?_
 refine sp 16 (.bool y1_5.isSome) ?_
 refine s_step 6 kf kf (st_new (T := 92) (cells := #[iv (0), iv (0), .slice none 0 0]) (fun a => .pointer (some a)) (fun _ => kf)) ?_
 rintro _ _ ⟨b1_9, rfl, rfl⟩
 refine s_do kf kf (st_store (off := 0) (vs := [iv x1_5.state, iv x1_5.head, .slice a1_5 (List.length x1_5.data) c1_5]) (c' := #[iv x1_5.state, iv x1_5.head, .slice a1_5 (List.length x1_5.data) c1_5]) (fun _ => kf) .here kf kf kf) ?_
 rintro _ _ ⟨rfl, rfl⟩
 refine sp 7 (.bool y1_5.isSome) ?_
 refine ops_end ?_
 refine ae [(4, .pointer (some ⟨b0_0, 0, none⟩)), (6, .pointer (some ⟨b1_9, 0, none⟩)), (7, .bool y1_5.isSome)] ?_
 refine at_then_normal ?_
 refine At.conv (Γ' := (DirXA d x1_3_d dc) :: (ImmI x1_3_d.a7 dc.c.init) :: (Asn.own b1_9 (.cells #[iv x1_5.state, iv x1_5.head, .slice a1_5 (List.length x1_5.data) c1_5] 92 (0, 0))) :: (ImmI a1_5 x1_5.data) :: (Asn.own b0_0 (.cells #[iv (0), iv (0), .slice none 0 0] 92 (0, 0))) :: Γ) (fun w hw => DirXA.close (x := x1_3_d) (t := dc) (Sat.less (.take (.there (.there (.there (.there .here)))) (.take .here (.take (.there (.there (.there .here))) (.take .here (.take .here (.take .here (.take .here .refl))))))) (ImmR.dup (Sat.less (.take (.there (.there (.there .here))) (.take .here (.take .here (.take .here (.take .here (.take .here .refl)))))) hw)))) ?_
 refine At.conv (Γ' := (DirA d dc) :: (ImmI x1_3_d.a7 dc.c.init) :: (Asn.own b1_9 (.cells #[iv x1_5.state, iv x1_5.head, .slice a1_5 (List.length x1_5.data) c1_5] 92 (0, 0))) :: (ImmI a1_5 x1_5.data) :: (Asn.own b0_0 (.cells #[iv (0), iv (0), .slice none 0 0] 92 (0, 0))) :: Γ) (fun w hw => DirXA.shut (hw.pull .here)) ?_
 refine aq (x := C44 [1,1,0]) (y := C44 [1,1,1]) ?_
 refine ar (id := 2) 5 ?_
 refine sp 17 (.pointer (some ⟨b1_9, 2, none⟩)) ?_
 refine sl 18 (.slice a1_5 (List.length x1_5.data) c1_5) (load1 (off := 2) (fun _ => kf) (holds_own (.there (.there .here))) kf) ?_
 obtain ⟨y2_2, hy2_2, H⟩ := bindE H
 refine s_call 19 55 #[.slice a1_5 (List.length x1_5.data) c1_5] kf kf (fun _ => kf) (CloneF_tr a1_5 c1_5 x1_5.data (ImmR.reads (k := 1) (.there (.there (.there .here)))) y2_2 hy2_2) ?_
 rintro _ _ ⟨a2_2_00, c2_2_00, rfl, rfl⟩
 refine sp 20 (.pointer (some ⟨b1_9, 2, none⟩)) ?_
 refine s_do kf kf (st_store (off := 2) (vs := [.slice a2_2_00 (List.length y2_2) c2_2_00]) (c' := #[iv x1_5.state, iv x1_5.head, .slice a2_2_00 (List.length y2_2) c2_2_00]) (fun _ => kf) (.there (.there (.there .here))) kf kf kf) ?_
 rintro _ _ ⟨rfl, rfl⟩
 refine ops_end ?_
 refine ae [(4, .pointer (some ⟨b0_0, 0, none⟩)), (6, .pointer (some ⟨b1_9, 0, none⟩)), (7, .bool y1_5.isSome)] ?_
 refine at_then_normal ?_
 refine aq (x := C44 [1,1,1,0]) (y := C44 [1,1,1,1]) ?_
 refine ar (id := 3) 4 ?_
 refine sl 21 (.agg #[iv x1_5.state, iv x1_5.head, .slice a2_2_00 (List.length y2_2) c2_2_00]) (loadN (off := 0) (vs := [iv x1_5.state, iv x1_5.head, .slice a2_2_00 (List.length y2_2) c2_2_00]) 3 (fun _ => kf) (holds_own .here) rfl (by exact ⟨rfl, rfl, rfl, trivial⟩)) ?_
 refine sp 22 (.bool y1_5.isSome) ?_
 refine s_do kf kf (st_store (off := 0) (vs := [iv x1_5.state, iv x1_5.head, .slice a2_2_00 (List.length y2_2) c2_2_00]) (c' := #[iv x1_5.state, iv x1_5.head, .slice a2_2_00 (List.length y2_2) c2_2_00]) (fun _ => kf) (.there (.there (.there (.there (.there .here))))) kf kf kf) ?_
 rintro _ _ ⟨rfl, rfl⟩
 refine sp 5 (.bool y1_5.isSome) ?_
 refine ops_end ?_
 refine ae [(4, .pointer (some ⟨b0_0, 0, none⟩)), (5, .bool y1_5.isSome)] ?_
 refine at_then_normal ?_
 refine at_ret kf ?_
 obtain rfl := someE H
 refine at_backR [.agg #[iv x1_5.state, iv x1_5.head, .slice a2_2_00 (List.length y2_2) c2_2_00], .bool y1_5.isSome] ((IntsA a2_2_00 c2_2_00 y2_2) :: (DirA d dc) :: Γ) (rs := [.cell 4 92, .tmp 5]) kf (.cons (.cell kf (retN (off := 0) (vs := [iv x1_5.state, iv x1_5.head, .slice a2_2_00 (List.length y2_2) c2_2_00]) 3 (fun _ => kf) (holds_own .here) rfl (by exact ⟨rfl, rfl, rfl, trivial⟩))) (.cons (.tmp kf) .nil)) (fun w hw => (Sat.less (.take (.there (.there .here)) (.take (.there (.there .here)) (.drop .here (.drop .here (.drop .here (.drop .here .refl)))))) hw)) ?_
 exact ⟨a2_2_00, c2_2_00, rfl, rfl⟩
def msetS_j0 (data : List Int) (dc : DirS) (line : Int) (state : Int) (head : Int) (x1_5 : RowS) : Option (Int × DirS) :=
 (bif decide ((0 : Int) < (((List.length data) : Nat) : Int)) then (copyS data).bind fun y10_1 => letP (mset dc.rows line (⟨state, head, y10_1⟩ : RowS)) fun m11_6 => some ((0 : Int), ({ c := dc.c, rows := m11_6 } : DirS)) else letP (mset dc.rows line (⟨state, head, x1_5.data⟩ : RowS)) fun m11_6 => some ((0 : Int), ({ c := dc.c, rows := m11_6 } : DirS)))
def msetS_j1 (dc : DirS) (head : Int) (state : Int) (data : List Int) (line : Int) (x1_5 : RowS) (e1_25 : Bool) : Option (Int × DirS) :=
 (bif e1_25 then some ((1 : Int), dc) else (bif !((decide (head = ((-1) : Int))) == (decide (state = (0 : Int)))) then some ((1 : Int), dc) else (bif !(decide ((((List.length data) : Nat) : Int) = (0 : Int))) then (bif !(decide ((((List.length data) : Nat) : Int) = dc.c.words)) then some ((1 : Int), dc) else msetS_j0 data dc line state head x1_5) else msetS_j0 data dc line state head x1_5)))
def msetS (dc : DirS) (line : Int) (state : Int) (head : Int) (data : List Int) : Option (Int × DirS) :=
 letP (mget dc.rows line) fun y1_5 => letP (Option.getD y1_5 (Rec.zero : RowS)) fun x1_5 => (bif !y1_5.isSome then some ((3 : Int), dc) else (bif decide (state < (0 : Int)) then msetS_j1 dc head state data line x1_5 true else (bif decide ((2 : Int) < state) then msetS_j1 dc head state data line x1_5 true else (bif decide (head < ((-1) : Int)) then msetS_j1 dc head state data line x1_5 true else msetS_j1 dc head state data line x1_5 (decide (dc.c.nodes ≤ head))))))
noncomputable def C51 (p : List Nat) : Code := codeAt (bodyOf Try.f51) p
set_option maxRecDepth 100000 in
set_option maxHeartbeats 8000000 in
theorem MSetF_tr {W0 : World} {Γ : List Asn} (d : Nat) (dc : DirS) (line : Int) (state : Int) (head : Int) (dataa : Option Addr) (datacap : Nat) (data : List Int) (hrdataa : Reads W0 Γ dataa (ints data)) (y : Int × DirS) (H : msetS dc line state head data = some y) : Tr Try.prog 51 #[.pointer (some ⟨d, 0, none⟩), iv line, iv state, iv head, .slice dataa (List.length data) datacap] W0 ((DirA d dc) :: Γ) (fun r Δ => r = iv y.1 ∧ Δ = (DirA d y.2) :: Γ) := by
 unfold msetS at H
 refine Tr.enter (fn := Try.f51) (c := C51 []) (args := [.pointer (some ⟨d, 0, none⟩), iv line, iv state, iv head, .slice dataa (List.length data) datacap]) 82 Try.func51 kf kf ?_
 refine ae [(0, .pointer (some ⟨d, 0, none⟩)), (1, iv line), (2, iv state), (3, iv head), (4, .slice dataa (List.length data) datacap)] ?_
 refine aq (x := C51 [0]) (y := C51 [1]) ?_
 refine ar (id := 0) 1 ?_
 refine sp 10 (iv (0)) ?_
 refine ops_end ?_
 refine ae [(0, .pointer (some ⟨d, 0, none⟩)), (1, iv line), (2, iv state), (3, iv head), (4, .slice dataa (List.length data) datacap)] ?_
 refine at_then_normal ?_
 refine aq (x := C51 [1,0]) (y := C51 [1,1]) ?_
 refine ar (id := 1) 12 ?_
 refine sp 14 (.pointer (some ⟨d, 0, none⟩)) ?_
 refine sp 15 (.pointer (some ⟨d, 0, none⟩)) ?_
 refine sp 16 (.pointer (some ⟨d, 8, none⟩)) ?_
 refine DirA.tox .here ?_
 intro x1_3_d
 refine DirXA.open .here ?_
 refine sl 17 (.map (some x1_3_d.b8)) (load1 (off := 8) (fun _ => kf) (holds_own .here) kf) ?_
 refine sp 18 (iv line) ?_
 obtain ⟨y1_5, hy1_5, H⟩ := letE H
 obtain ⟨x1_5, hx1_5, H⟩ := letE H
 refine rmap_get (α := RowS) (zv := .agg #[iv (0), iv (0), .slice none 0 0]) (by rfl) (by rfl) (.there (.there .here)) line ?_
 intro a1_5 c1_5 hv1_5 hs1_5
 rw [hy1_5] at hv1_5 hs1_5 ⊢
 rw [hx1_5] at hv1_5 ⊢
 refine sl 19 (.tuple #[.agg #[iv x1_5.state, iv x1_5.head, .slice a1_5 (List.length x1_5.data) c1_5], .bool y1_5.isSome]) (rmap_lookup2 (t := 96) (Kt := 3) (V := 92) (ik := .i64) (k := line) (info := tinfo 92) (v := .agg #[iv x1_5.state, iv x1_5.head, .slice a1_5 (List.length x1_5.data) c1_5]) hv1_5 hs1_5 (fun _ => kf) kf kf kf kf (.there (.there (.there .here)))) ?_
 refine sp 13 (.tuple #[.agg #[iv x1_5.state, iv x1_5.head, .slice a1_5 (List.length x1_5.data) c1_5], .bool y1_5.isSome]) ?_
 refine sp 20 (.agg #[iv x1_5.state, iv x1_5.head, .slice a1_5 (List.length x1_5.data) c1_5]) ?_
 refine sp 21 (.bool y1_5.isSome) ?_
 refine s_step 11 kf kf (st_new (T := 92) (cells := #[iv (0), iv (0), .slice none 0 0]) (fun a => .pointer (some a)) (fun _ => kf)) ?_
 rintro _ _ ⟨b1_9, rfl, rfl⟩
 refine s_do kf kf (st_store (off := 0) (vs := [iv x1_5.state, iv x1_5.head, .slice a1_5 (List.length x1_5.data) c1_5]) (c' := #[iv x1_5.state, iv x1_5.head, .slice a1_5 (List.length x1_5.data) c1_5]) (fun _ => kf) .here kf kf kf) ?_
 rintro _ _ ⟨rfl, rfl⟩
 refine sp 12 (.bool y1_5.isSome) ?_
 refine ops_end ?_
 refine ae [(0, .pointer (some ⟨d, 0, none⟩)), (1, iv line), (2, iv state), (3, iv head), (4, .slice dataa (List.length data) datacap), (11, .pointer (some ⟨b1_9, 0, none⟩)), (12, .bool y1_5.isSome)] ?_
 refine at_then_normal ?_
 refine At.conv (Γ' := (DirXA d x1_3_d dc) :: (ImmI x1_3_d.a7 dc.c.init) :: (Asn.own b1_9 (.cells #[iv x1_5.state, iv x1_5.head, .slice a1_5 (List.length x1_5.data) c1_5] 92 (0, 0))) :: (ImmI a1_5 x1_5.data) :: Γ) (fun w hw => DirXA.close (x := x1_3_d) (t := dc) (Sat.less (.take (.there (.there (.there (.there .here)))) (.take .here (.take (.there (.there (.there .here))) (.take .here (.take .here (.take .here .refl)))))) (ImmR.dup (Sat.less (.take (.there (.there (.there .here))) (.take .here (.take .here (.take .here (.take .here .refl))))) hw)))) ?_
 refine At.conv (Γ' := (DirA d dc) :: (ImmI x1_3_d.a7 dc.c.init) :: (Asn.own b1_9 (.cells #[iv x1_5.state, iv x1_5.head, .slice a1_5 (List.length x1_5.data) c1_5] 92 (0, 0))) :: (ImmI a1_5 x1_5.data) :: Γ) (fun w hw => DirXA.shut (hw.pull .here)) ?_
 refine at_seq_join (x := C51 [1,1,0]) (y := C51 [1,1,1]) (fun ff ΔΔ => msetS_j0 data dc line state head x1_5 = some y ∧ ff = [(0, .pointer (some ⟨d, 0, none⟩)), (1, iv line), (2, iv state), (3, iv head), (4, .slice dataa (List.length data) datacap), (11, .pointer (some ⟨b1_9, 0, none⟩))] ∧ (DirA d dc) :: (Asn.own b1_9 (.cells #[iv x1_5.state, iv x1_5.head, .slice a1_5 (List.length x1_5.data) c1_5] 92 (0, 0))) :: (ImmI a1_5 x1_5.data) :: Γ = ΔΔ) kf ?_ ?_
 ·rintro _ _ ⟨H, rfl, rfl⟩
  rw [msetS_j0] at H
  refine aq (x := C51 [1,1,1,0]) (y := C51 [1,1,1,1]) ?_
  refine ar (id := 8) 6 ?_
  refine sp 66 (iv state) ?_
  refine sp 67 (iv head) ?_
  refine sp 68 (.pointer (some ⟨b1_9, 0, none⟩)) ?_
  refine s_do kf kf (st_store (off := 0) (vs := [iv state]) (c' := #[iv state, iv x1_5.head, .slice a1_5 (List.length x1_5.data) c1_5]) (fun _ => kf) (.there .here) kf kf kf) ?_
  rintro _ _ ⟨rfl, rfl⟩
  refine sp 69 (.pointer (some ⟨b1_9, 1, none⟩)) ?_
  refine s_do kf kf (st_store (off := 1) (vs := [iv head]) (c' := #[iv state, iv head, .slice a1_5 (List.length x1_5.data) c1_5]) (fun _ => kf) .here kf kf kf) ?_
  rintro _ _ ⟨rfl, rfl⟩
  refine ops_end ?_
  refine ae [(0, .pointer (some ⟨d, 0, none⟩)), (1, iv line), (4, .slice dataa (List.length data) datacap), (11, .pointer (some ⟨b1_9, 0, none⟩))] ?_
  refine at_then_normal ?_
  refine aq (x := C51 [1,1,1,1,0]) (y := C51 [1,1,1,1,1]) ?_
  refine aq (x := C51 [1,1,1,1,0,0]) (y := C51 [1,1,1,1,0,1]) ?_
  refine ar (id := 9) 3 ?_
  refine sp 70 (.slice dataa (List.length data) datacap) ?_
  refine sp 71 (iv (((List.length data) : Nat) : Int)) ?_
  refine sp 72 (.bool (decide ((0 : Int) < (((List.length data) : Nat) : Int)))) ?_
  refine ops_end ?_
  refine ae [(0, .pointer (some ⟨d, 0, none⟩)), (1, iv line), (4, .slice dataa (List.length data) datacap), (11, .pointer (some ⟨b1_9, 0, none⟩)), (72, .bool (decide ((0 : Int) < (((List.length data) : Nat) : Int))))] ?_
  refine at_then_normal ?_
  rcases Bool.eq_false_or_eq_true (decide ((0 : Int) < (((List.length data) : Nat) : Int))) with h1 | h1
  ·replace H := bifT H h1
   refine at_true (t := decide ((0 : Int) < (((List.length data) : Nat) : Int))) (x := C51 [1,1,1,1,0,1,0]) (y := C51 [1,1,1,1,0,1,1]) (o := .tmp 72) kf kf kf h1 ?_
   refine ar (id := 10) 4 ?_
   refine sp 73 (.slice dataa (List.length data) datacap) ?_
   obtain ⟨y10_1, hy10_1, H⟩ := bindE H
   refine s_call 74 55 #[.slice dataa (List.length data) datacap] kf kf (fun _ => kf) (CloneF_tr dataa datacap data (Reads.conv (fun w hw => hw.less (.drop .here (.drop .here (.drop .here .refl)))) hrdataa) y10_1 hy10_1) ?_
   rintro _ _ ⟨a10_1_00, c10_1_00, rfl, rfl⟩
   refine sp 75 (.pointer (some ⟨b1_9, 2, none⟩)) ?_
   refine s_do kf kf (st_store (off := 2) (vs := [.slice a10_1_00 (List.length y10_1) c10_1_00]) (c' := #[iv state, iv head, .slice a10_1_00 (List.length y10_1) c10_1_00]) (fun _ => kf) (.there .here) kf kf kf) ?_
   rintro _ _ ⟨rfl, rfl⟩
   refine ops_end ?_
   refine ae [(0, .pointer (some ⟨d, 0, none⟩)), (1, iv line), (11, .pointer (some ⟨b1_9, 0, none⟩))] ?_
   refine at_then_normal ?_
   refine aq (x := C51 [1,1,1,1,1,0]) (y := C51 [1,1,1,1,1,1]) ?_
   refine at_region_draw (id := 11) kf kf ?_
   refine dp 0 76 (.pointer (some ⟨d, 0, none⟩)) ?_
   refine dp 1 77 (.pointer (some ⟨d, 0, none⟩)) ?_
   refine dp 2 78 (.pointer (some ⟨d, 8, none⟩)) ?_
   refine DirA.tox_draw (.there (.there .here)) ?_
   intro x11_3_d
   refine DirXA.open_draw .here ?_
   refine dl 3 79 (.map (some x11_3_d.b8)) (load1 (off := 8) (fun _ => kf) (holds_own .here) kf) ?_
   refine dp 4 80 (iv line) ?_
   refine dl 5 81 (.agg #[iv state, iv head, .slice a10_1_00 (List.length y10_1) c10_1_00]) (loadN (off := 0) (vs := [iv state, iv head, .slice a10_1_00 (List.length y10_1) c10_1_00]) 3 (fun _ => kf) (holds_own (.there (.there (.there .here)))) rfl (by exact ⟨rfl, rfl, rfl, trivial⟩)) ?_
   refine Draw.convS (Γ' := (ImmI a10_1_00 y10_1) :: (Asn.own d (.cells #[iv dc.c.nodes, iv dc.c.lines, iv dc.c.words, iv dc.c.sets, iv dc.c.ways, iv dc.c.out, iv dc.c.inn, .slice x11_3_d.a7 (List.length dc.c.init) x11_3_d.c7, .map (some x11_3_d.b8)] x11_3_d.T (0, 0))) :: (ImmI x11_3_d.a7 dc.c.init) :: (RMapX (α := RowS) x11_3_d.v8 x11_3_d.b8 dc.rows) :: (Asn.own b1_9 (.cells #[iv state, iv head, .slice a10_1_00 (List.length y10_1) c10_1_00] 92 (0, 0))) :: (ImmI a1_5 x1_5.data) :: Γ) (fun w hw => RowsA.freeze (hw.pull (.there (.there (.there (.there .here)))))) (stable_cons 5 81 (.agg #[iv state, iv head, .slice a10_1_00 (List.length y10_1) c10_1_00]) kf kf kf (loadN (off := 0) (vs := [iv state, iv head, .slice a10_1_00 (List.length y10_1) c10_1_00]) 3 (fun _ => kf) (holds_own (.there (.there (.there (.there .here))))) rfl (by exact ⟨rfl, rfl, rfl, trivial⟩)) (stable_cons 3 79 (.map (some x11_3_d.b8)) kf kf kf (load1 (off := 8) (fun _ => kf) (holds_own (.there .here)) kf) stable_nil)) ?_
   obtain ⟨m11_6, hm11_6, H⟩ := letE H
   refine d_do 6 [3, 4, 5, 0, 1, 2] [] [] kf kf kf (st_rset (α := RowS) (x := (⟨state, head, y10_1⟩ : RowS)) (a := a10_1_00) (c := c10_1_00) (v := .agg #[iv state, iv head, .slice a10_1_00 (List.length y10_1) c10_1_00]) (t := 96) (Kt := 3) (V := 92) (ik := .i64) (k := line) (by rfl) (fun _ => kf) kf kf (.there (.there (.there .here))) .here) ?_
   rintro _ _ ⟨rfl, rfl⟩
   rw [hm11_6]
   refine ⟨stable_nil, ?_⟩
   refine draw_end kf ?_
   refine At.env [] trivial ?_
   refine at_then_normal ?_
   refine At.conv (Γ' := (DirXA d (⟨x11_3_d.a7, x11_3_d.c7, x11_3_d.b8, mset x11_3_d.v8 line (.agg #[iv state, iv head, .slice a10_1_00 (List.length y10_1) c10_1_00]), x11_3_d.T⟩ : DirXP) ({ c := dc.c, rows := m11_6 } : DirS)) :: (ImmI x11_3_d.a7 dc.c.init) :: (ImmI a10_1_00 y10_1) :: (Asn.own b1_9 (.cells #[iv state, iv head, .slice a10_1_00 (List.length y10_1) c10_1_00] 92 (0, 0))) :: (ImmI a1_5 x1_5.data) :: Γ) (fun w hw => DirXA.close (x := (⟨x11_3_d.a7, x11_3_d.c7, x11_3_d.b8, mset x11_3_d.v8 line (.agg #[iv state, iv head, .slice a10_1_00 (List.length y10_1) c10_1_00]), x11_3_d.T⟩ : DirXP)) (t := ({ c := dc.c, rows := m11_6 } : DirS)) (Sat.less (.take (.there (.there (.there (.there .here)))) (.take .here (.take (.there .here) (.take .here (.take .here (.take .here (.take .here .refl))))))) (ImmR.dup (Sat.less (.take (.there (.there (.there .here))) (.take .here (.take .here (.take .here (.take .here (.take .here .refl)))))) hw)))) ?_
   refine At.conv (Γ' := (DirA d ({ c := dc.c, rows := m11_6 } : DirS)) :: (ImmI x11_3_d.a7 dc.c.init) :: (ImmI a10_1_00 y10_1) :: (Asn.own b1_9 (.cells #[iv state, iv head, .slice a10_1_00 (List.length y10_1) c10_1_00] 92 (0, 0))) :: (ImmI a1_5 x1_5.data) :: Γ) (fun w hw => DirXA.shut (hw.pull .here)) ?_
   refine aq (x := C51 [1,1,1,1,1,1,0]) (y := C51 [1,1,1,1,1,1,1]) ?_
   refine ar (id := 12) 1 ?_
   refine sp 10 (iv (0)) ?_
   refine ops_end ?_
   refine ae [(10, iv (0))] ?_
   refine at_then_normal ?_
   refine at_ret kf ?_
   obtain rfl := someE H
   refine at_backR [iv (0)] ((DirA d ({ c := dc.c, rows := m11_6 } : DirS)) :: Γ) (rs := [.tmp 10]) kf (.cons (.tmp kf) .nil) (fun w hw => (Sat.less (.take .here (.drop .here (.drop .here (.drop .here (.drop .here .refl))))) hw)) ?_
   exact ⟨rfl, rfl⟩
  ·replace H := bifF H h1
   refine at_false (t := decide ((0 : Int) < (((List.length data) : Nat) : Int))) (x := C51 [1,1,1,1,0,1,0]) (y := C51 [1,1,1,1,0,1,1]) (o := .tmp 72) kf kf kf h1 ?_
   refine at_skip kf ?_
   refine at_then_normal ?_
   refine aq (x := C51 [1,1,1,1,1,0]) (y := C51 [1,1,1,1,1,1]) ?_
   refine at_region_draw (id := 11) kf kf ?_
   refine dp 0 76 (.pointer (some ⟨d, 0, none⟩)) ?_
   refine dp 1 77 (.pointer (some ⟨d, 0, none⟩)) ?_
   refine dp 2 78 (.pointer (some ⟨d, 8, none⟩)) ?_
   refine DirA.tox_draw (.there .here) ?_
   intro x11_3_d
   refine DirXA.open_draw .here ?_
   refine dl 3 79 (.map (some x11_3_d.b8)) (load1 (off := 8) (fun _ => kf) (holds_own .here) kf) ?_
   refine dp 4 80 (iv line) ?_
   refine dl 5 81 (.agg #[iv state, iv head, .slice a1_5 (List.length x1_5.data) c1_5]) (loadN (off := 0) (vs := [iv state, iv head, .slice a1_5 (List.length x1_5.data) c1_5]) 3 (fun _ => kf) (holds_own (.there (.there (.there .here)))) rfl (by exact ⟨rfl, rfl, rfl, trivial⟩)) ?_
   obtain ⟨m11_6, hm11_6, H⟩ := letE H
   refine d_do 6 [3, 4, 5, 0, 1, 2] [] [] kf kf kf (st_rset (α := RowS) (x := (⟨state, head, x1_5.data⟩ : RowS)) (a := a1_5) (c := c1_5) (v := .agg #[iv state, iv head, .slice a1_5 (List.length x1_5.data) c1_5]) (t := 96) (Kt := 3) (V := 92) (ik := .i64) (k := line) (by rfl) (fun _ => kf) kf kf (.there (.there .here)) (.there (.there (.there .here)))) ?_
   rintro _ _ ⟨rfl, rfl⟩
   rw [hm11_6]
   refine ⟨stable_nil, ?_⟩
   refine draw_end kf ?_
   refine At.env [] trivial ?_
   refine at_then_normal ?_
   refine At.conv (Γ' := (DirXA d (⟨x11_3_d.a7, x11_3_d.c7, x11_3_d.b8, mset x11_3_d.v8 line (.agg #[iv state, iv head, .slice a1_5 (List.length x1_5.data) c1_5]), x11_3_d.T⟩ : DirXP) ({ c := dc.c, rows := m11_6 } : DirS)) :: (ImmI x11_3_d.a7 dc.c.init) :: (Asn.own b1_9 (.cells #[iv state, iv head, .slice a1_5 (List.length x1_5.data) c1_5] 92 (0, 0))) :: (ImmI a1_5 x1_5.data) :: Γ) (fun w hw => DirXA.close (x := (⟨x11_3_d.a7, x11_3_d.c7, x11_3_d.b8, mset x11_3_d.v8 line (.agg #[iv state, iv head, .slice a1_5 (List.length x1_5.data) c1_5]), x11_3_d.T⟩ : DirXP)) (t := ({ c := dc.c, rows := m11_6 } : DirS)) (Sat.less (.take (.there (.there (.there .here))) (.take .here (.take (.there .here) (.take .here (.take .here (.take .here .refl)))))) (ImmR.dup (Sat.less (.take (.there (.there .here)) (.take .here (.take .here (.take .here (.take .here .refl))))) hw)))) ?_
   refine At.conv (Γ' := (DirA d ({ c := dc.c, rows := m11_6 } : DirS)) :: (ImmI x11_3_d.a7 dc.c.init) :: (Asn.own b1_9 (.cells #[iv state, iv head, .slice a1_5 (List.length x1_5.data) c1_5] 92 (0, 0))) :: (ImmI a1_5 x1_5.data) :: Γ) (fun w hw => DirXA.shut (hw.pull .here)) ?_
   refine aq (x := C51 [1,1,1,1,1,1,0]) (y := C51 [1,1,1,1,1,1,1]) ?_
   refine ar (id := 12) 1 ?_
   refine sp 10 (iv (0)) ?_
   refine ops_end ?_
   refine ae [(10, iv (0))] ?_
   refine at_then_normal ?_
   refine at_ret kf ?_
   obtain rfl := someE H
   refine at_backR [iv (0)] ((DirA d ({ c := dc.c, rows := m11_6 } : DirS)) :: Γ) (rs := [.tmp 10]) kf (.cons (.tmp kf) .nil) (fun w hw => (Sat.less (.take .here (.drop .here (.drop .here (.drop .here .refl)))) hw)) ?_
   exact ⟨rfl, rfl⟩
 ·refine at_block (i := 0) (x := C51 [1,1,0,0]) kf ?_
  refine aq (x := C51 [1,1,0,0,0]) (y := C51 [1,1,0,0,1]) ?_
  refine ar (id := 2) 3 ?_
  refine sp 23 (.bool y1_5.isSome) ?_
  refine sp 24 (.bool !y1_5.isSome) ?_
  refine sp 22 (.bool !y1_5.isSome) ?_
  refine ops_end ?_
  refine ae [(0, .pointer (some ⟨d, 0, none⟩)), (1, iv line), (2, iv state), (3, iv head), (4, .slice dataa (List.length data) datacap), (11, .pointer (some ⟨b1_9, 0, none⟩)), (22, .bool !y1_5.isSome)] ?_
  refine at_then_normal ?_
  rcases Bool.eq_false_or_eq_true (!y1_5.isSome) with h2 | h2
  ·replace H := bifT H h2
   refine at_true (t := !y1_5.isSome) (x := C51 [1,1,0,0,1,0]) (y := C51 [1,1,0,0,1,1]) (o := .tmp 22) kf kf kf h2 ?_
   refine aq (x := C51 [1,1,0,0,1,0,0]) (y := C51 [1,1,0,0,1,0,1]) ?_
   refine ar (id := 3) 1 ?_
   refine sp 10 (iv (3)) ?_
   refine ops_end ?_
   refine ae [(10, iv (3))] ?_
   refine at_then_normal ?_
   refine at_ret kf ?_
   refine at_in_ret ?_
   refine at_then_ret ?_
   obtain rfl := someE H
   refine at_backR [iv (3)] ((DirA d dc) :: Γ) (rs := [.tmp 10]) kf (.cons (.tmp kf) .nil) (fun w hw => (Sat.less (.take .here (.drop .here (.drop .here (.drop .here .refl)))) hw)) ?_
   exact ⟨rfl, rfl⟩
  ·replace H := bifF H h2
   refine at_false (t := !y1_5.isSome) (x := C51 [1,1,0,0,1,0]) (y := C51 [1,1,0,0,1,1]) (o := .tmp 22) kf kf kf h2 ?_
   refine at_seq_join (x := C51 [1,1,0,0,1,1,0]) (y := C51 [1,1,0,0,1,1,1]) (fun ff ΔΔ => ∃ (e1_25 : Bool), msetS_j1 dc head state data line x1_5 e1_25 = some y ∧ ff = [(0, .pointer (some ⟨d, 0, none⟩)), (1, iv line), (2, iv state), (3, iv head), (4, .slice dataa (List.length data) datacap), (11, .pointer (some ⟨b1_9, 0, none⟩)), (25, .bool e1_25)] ∧ (DirA d dc) :: (Asn.own b1_9 (.cells #[iv x1_5.state, iv x1_5.head, .slice a1_5 (List.length x1_5.data) c1_5] 92 (0, 0))) :: (ImmI a1_5 x1_5.data) :: Γ = ΔΔ) kf ?_ ?_
   ·rintro _ _ ⟨e1_25, H, rfl, rfl⟩
    rw [msetS_j1] at H
    rcases Bool.eq_false_or_eq_true (e1_25) with h3 | h3
    ·replace H := bifT H h3
     refine at_true (t := e1_25) (x := C51 [1,1,0,0,1,1,1,0]) (y := C51 [1,1,0,0,1,1,1,1]) (o := .tmp 25) kf kf kf h3 ?_
     refine aq (x := C51 [1,1,0,0,1,1,1,0,0]) (y := C51 [1,1,0,0,1,1,1,0,1]) ?_
     refine ar (id := 5) 1 ?_
     refine sp 10 (iv (1)) ?_
     refine ops_end ?_
     refine ae [(10, iv (1))] ?_
     refine at_then_normal ?_
     refine at_ret kf ?_
     refine at_in_ret ?_
     refine at_then_ret ?_
     obtain rfl := someE H
     refine at_backR [iv (1)] ((DirA d dc) :: Γ) (rs := [.tmp 10]) kf (.cons (.tmp kf) .nil) (fun w hw => (Sat.less (.take .here (.drop .here (.drop .here .refl))) hw)) ?_
     exact ⟨rfl, rfl⟩
    ·replace H := bifF H h3
     refine at_false (t := e1_25) (x := C51 [1,1,0,0,1,1,1,0]) (y := C51 [1,1,0,0,1,1,1,1]) (o := .tmp 25) kf kf kf h3 ?_
     refine aq (x := C51 [1,1,0,0,1,1,1,1,0]) (y := C51 [1,1,0,0,1,1,1,1,1]) ?_
     refine ar (id := 6) 21 ?_
     refine sp 46 (iv head) ?_
     refine sp 47 (.bool (decide (head = ((-1) : Int)))) ?_
     refine sp 48 (iv state) ?_
     refine sp 49 (.bool (decide (state = (0 : Int)))) ?_
     refine sp 50 (.bool (!((decide (head = ((-1) : Int))) == (decide (state = (0 : Int)))))) ?_
     rcases Bool.eq_false_or_eq_true (!((decide (head = ((-1) : Int))) == (decide (state = (0 : Int))))) with h4 | h4
     ·replace H := bifT H h4
      refine sr 51 (.bool true) (run_eq (v := .bool (!((decide (head = ((-1) : Int))) == (decide (state = (0 : Int)))))) (fun _ => kf) (congrArg Value.bool h4)) ?_
      refine sa 52 ?_
      refine sa 53 ?_
      refine sa 54 ?_
      refine sa 55 ?_
      refine sa 56 ?_
      refine sa 57 ?_
      refine sa 58 ?_
      refine sa 59 ?_
      refine sa 60 ?_
      refine sa 61 ?_
      refine sa 62 ?_
      refine sa 63 ?_
      refine sa 64 ?_
      refine sp 65 (.bool true) ?_
      refine sp 45 (.bool true) ?_
      refine ops_end ?_
      refine ae [(0, .pointer (some ⟨d, 0, none⟩)), (1, iv line), (2, iv state), (3, iv head), (4, .slice dataa (List.length data) datacap), (11, .pointer (some ⟨b1_9, 0, none⟩)), (45, .bool true)] ?_
      refine at_then_normal ?_
      refine at_true (t := true) (x := C51 [1,1,0,0,1,1,1,1,1,0]) (y := C51 [1,1,0,0,1,1,1,1,1,1]) (o := .tmp 45) kf kf kf rfl ?_
      refine aq (x := C51 [1,1,0,0,1,1,1,1,1,0,0]) (y := C51 [1,1,0,0,1,1,1,1,1,0,1]) ?_
      refine ar (id := 7) 1 ?_
      refine sp 10 (iv (1)) ?_
      refine ops_end ?_
      refine ae [(10, iv (1))] ?_
      refine at_then_normal ?_
      refine at_ret kf ?_
      refine at_in_ret ?_
      refine at_then_ret ?_
      obtain rfl := someE H
      refine at_backR [iv (1)] ((DirA d dc) :: Γ) (rs := [.tmp 10]) kf (.cons (.tmp kf) .nil) (fun w hw => (Sat.less (.take .here (.drop .here (.drop .here .refl))) hw)) ?_
      exact ⟨rfl, rfl⟩
     ·replace H := bifF H h4
      refine sr 51 (.bool false) (run_eq (v := .bool (!((decide (head = ((-1) : Int))) == (decide (state = (0 : Int)))))) (fun _ => kf) (congrArg Value.bool h4)) ?_
      refine sp 52 (.slice dataa (List.length data) datacap) ?_
      refine sp 53 (iv (((List.length data) : Nat) : Int)) ?_
      refine sp 54 (.bool (!(decide ((((List.length data) : Nat) : Int) = (0 : Int))))) ?_
      rcases Bool.eq_false_or_eq_true (!(decide ((((List.length data) : Nat) : Int) = (0 : Int)))) with h5 | h5
      ·replace H := bifT H h5
       refine sr 55 (.bool true) (run_eq (v := .bool (!(decide ((((List.length data) : Nat) : Int) = (0 : Int))))) (fun _ => kf) (congrArg Value.bool h5)) ?_
       refine sp 56 (.slice dataa (List.length data) datacap) ?_
       refine sp 57 (iv (((List.length data) : Nat) : Int)) ?_
       refine sp 58 (.pointer (some ⟨d, 0, none⟩)) ?_
       refine sp 59 (.pointer (some ⟨d, 0, none⟩)) ?_
       refine sp 60 (.pointer (some ⟨d, 0, none⟩)) ?_
       refine sp 61 (.pointer (some ⟨d, 2, none⟩)) ?_
       refine DirA.tox .here ?_
       intro x6_16_d
       refine DirXA.open .here ?_
       refine sl 62 (iv dc.c.words) (load1 (off := 2) (fun _ => kf) (holds_own .here) kf) ?_
       refine sp 63 (.bool (!(decide ((((List.length data) : Nat) : Int) = dc.c.words)))) ?_
       refine sp 64 (.bool (!(decide ((((List.length data) : Nat) : Int) = dc.c.words)))) ?_
       refine sp 65 (.bool (!(decide ((((List.length data) : Nat) : Int) = dc.c.words)))) ?_
       refine sp 45 (.bool (!(decide ((((List.length data) : Nat) : Int) = dc.c.words)))) ?_
       refine ops_end ?_
       refine ae [(0, .pointer (some ⟨d, 0, none⟩)), (1, iv line), (2, iv state), (3, iv head), (4, .slice dataa (List.length data) datacap), (11, .pointer (some ⟨b1_9, 0, none⟩)), (45, .bool (!(decide ((((List.length data) : Nat) : Int) = dc.c.words))))] ?_
       refine at_then_normal ?_
       rcases Bool.eq_false_or_eq_true (!(decide ((((List.length data) : Nat) : Int) = dc.c.words))) with h6 | h6
       ·replace H := bifT H h6
        refine at_true (t := !(decide ((((List.length data) : Nat) : Int) = dc.c.words))) (x := C51 [1,1,0,0,1,1,1,1,1,0]) (y := C51 [1,1,0,0,1,1,1,1,1,1]) (o := .tmp 45) kf kf kf h6 ?_
        refine At.conv (Γ' := (DirXA d x6_16_d dc) :: (ImmI x6_16_d.a7 dc.c.init) :: (Asn.own b1_9 (.cells #[iv x1_5.state, iv x1_5.head, .slice a1_5 (List.length x1_5.data) c1_5] 92 (0, 0))) :: (ImmI a1_5 x1_5.data) :: Γ) (fun w hw => DirXA.close (x := x6_16_d) (t := dc) (Sat.less (.take (.there (.there .here)) (.take .here (.take (.there .here) (.take .here (.take .here (.take .here .refl)))))) (ImmR.dup (Sat.less (.take (.there .here) (.take .here (.take .here (.take .here (.take .here .refl))))) hw)))) ?_
        refine At.conv (Γ' := (DirA d dc) :: (ImmI x6_16_d.a7 dc.c.init) :: (Asn.own b1_9 (.cells #[iv x1_5.state, iv x1_5.head, .slice a1_5 (List.length x1_5.data) c1_5] 92 (0, 0))) :: (ImmI a1_5 x1_5.data) :: Γ) (fun w hw => DirXA.shut (hw.pull .here)) ?_
        refine aq (x := C51 [1,1,0,0,1,1,1,1,1,0,0]) (y := C51 [1,1,0,0,1,1,1,1,1,0,1]) ?_
        refine ar (id := 7) 1 ?_
        refine sp 10 (iv (1)) ?_
        refine ops_end ?_
        refine ae [(10, iv (1))] ?_
        refine at_then_normal ?_
        refine at_ret kf ?_
        refine at_in_ret ?_
        refine at_then_ret ?_
        obtain rfl := someE H
        refine at_backR [iv (1)] ((DirA d dc) :: Γ) (rs := [.tmp 10]) kf (.cons (.tmp kf) .nil) (fun w hw => (Sat.less (.take .here (.drop .here (.drop .here (.drop .here .refl)))) hw)) ?_
        exact ⟨rfl, rfl⟩
       ·replace H := bifF H h6
        refine at_false (t := !(decide ((((List.length data) : Nat) : Int) = dc.c.words))) (x := C51 [1,1,0,0,1,1,1,1,1,0]) (y := C51 [1,1,0,0,1,1,1,1,1,1]) (o := .tmp 45) kf kf kf h6 ?_
        refine at_skip kf ?_
        refine at_in_normal ?_
        refine at_round_normal ?_
        refine At.conv (Γ' := (DirXA d x6_16_d dc) :: (ImmI x6_16_d.a7 dc.c.init) :: (Asn.own b1_9 (.cells #[iv x1_5.state, iv x1_5.head, .slice a1_5 (List.length x1_5.data) c1_5] 92 (0, 0))) :: (ImmI a1_5 x1_5.data) :: Γ) (fun w hw => DirXA.close (x := x6_16_d) (t := dc) (Sat.less (.take (.there (.there .here)) (.take .here (.take (.there .here) (.take .here (.take .here (.take .here .refl)))))) (ImmR.dup (Sat.less (.take (.there .here) (.take .here (.take .here (.take .here (.take .here .refl))))) hw)))) ?_
        refine At.conv (Γ' := (DirA d dc) :: (ImmI x6_16_d.a7 dc.c.init) :: (Asn.own b1_9 (.cells #[iv x1_5.state, iv x1_5.head, .slice a1_5 (List.length x1_5.data) c1_5] 92 (0, 0))) :: (ImmI a1_5 x1_5.data) :: Γ) (fun w hw => DirXA.shut (hw.pull .here)) ?_
        exact at_join_mk [(0, .pointer (some ⟨d, 0, none⟩)), (1, iv line), (2, iv state), (3, iv head), (4, .slice dataa (List.length data) datacap), (11, .pointer (some ⟨b1_9, 0, none⟩))] ((DirA d dc) :: (Asn.own b1_9 (.cells #[iv x1_5.state, iv x1_5.head, .slice a1_5 (List.length x1_5.data) c1_5] 92 (0, 0))) :: (ImmI a1_5 x1_5.data) :: Γ) ⟨kf, kf, kf, kf, kf, kf, trivial⟩ (fun w hw => (Sat.less (.take .here (.take (.there .here) (.take (.there .here) (.drop .here .refl)))) hw)) ⟨H, rfl, rfl⟩
      ·replace H := bifF H h5
       refine sr 55 (.bool false) (run_eq (v := .bool (!(decide ((((List.length data) : Nat) : Int) = (0 : Int))))) (fun _ => kf) (congrArg Value.bool h5)) ?_
       refine sa 56 ?_
       refine sa 57 ?_
       refine sa 58 ?_
       refine sa 59 ?_
       refine sa 60 ?_
       refine sa 61 ?_
       refine sa 62 ?_
       refine sa 63 ?_
       refine sp 64 (.bool false) ?_
       refine sp 65 (.bool false) ?_
       refine sp 45 (.bool false) ?_
       refine ops_end ?_
       refine ae [(0, .pointer (some ⟨d, 0, none⟩)), (1, iv line), (2, iv state), (3, iv head), (4, .slice dataa (List.length data) datacap), (11, .pointer (some ⟨b1_9, 0, none⟩)), (45, .bool false)] ?_
       refine at_then_normal ?_
       refine at_false (t := false) (x := C51 [1,1,0,0,1,1,1,1,1,0]) (y := C51 [1,1,0,0,1,1,1,1,1,1]) (o := .tmp 45) kf kf kf rfl ?_
       refine at_skip kf ?_
       refine at_in_normal ?_
       refine at_round_normal ?_
       exact at_join_mk [(0, .pointer (some ⟨d, 0, none⟩)), (1, iv line), (2, iv state), (3, iv head), (4, .slice dataa (List.length data) datacap), (11, .pointer (some ⟨b1_9, 0, none⟩))] ((DirA d dc) :: (Asn.own b1_9 (.cells #[iv x1_5.state, iv x1_5.head, .slice a1_5 (List.length x1_5.data) c1_5] 92 (0, 0))) :: (ImmI a1_5 x1_5.data) :: Γ) ⟨kf, kf, kf, kf, kf, kf, trivial⟩ (fun w hw => (Sat.less (.take .here (.take .here (.take .here .refl))) hw)) ⟨H, rfl, rfl⟩
   ·refine ar (id := 4) 20 ?_
    refine sp 26 (iv state) ?_
    refine sp 27 (.bool (decide (state < (0 : Int)))) ?_
    rcases Bool.eq_false_or_eq_true (decide (state < (0 : Int))) with h7 | h7
    ·replace H := bifT H h7
     refine sr 28 (.bool true) (run_eq (v := .bool (decide (state < (0 : Int)))) (fun _ => kf) (congrArg Value.bool h7)) ?_
     refine sa 29 ?_
     refine sa 30 ?_
     refine sp 31 (.bool true) ?_
     refine sp 32 (.bool true) ?_
     refine sa 33 ?_
     refine sa 34 ?_
     refine sp 35 (.bool true) ?_
     refine sp 36 (.bool true) ?_
     refine sa 37 ?_
     refine sa 38 ?_
     refine sa 39 ?_
     refine sa 40 ?_
     refine sa 41 ?_
     refine sa 42 ?_
     refine sa 43 ?_
     refine sp 44 (.bool true) ?_
     refine sp 25 (.bool true) ?_
     refine ops_end ?_
     refine ae [(0, .pointer (some ⟨d, 0, none⟩)), (1, iv line), (2, iv state), (3, iv head), (4, .slice dataa (List.length data) datacap), (11, .pointer (some ⟨b1_9, 0, none⟩)), (25, .bool true)] ?_
     refine at_round_normal ?_
     exact at_join_mk [(0, .pointer (some ⟨d, 0, none⟩)), (1, iv line), (2, iv state), (3, iv head), (4, .slice dataa (List.length data) datacap), (11, .pointer (some ⟨b1_9, 0, none⟩)), (25, .bool true)] ((DirA d dc) :: (Asn.own b1_9 (.cells #[iv x1_5.state, iv x1_5.head, .slice a1_5 (List.length x1_5.data) c1_5] 92 (0, 0))) :: (ImmI a1_5 x1_5.data) :: Γ) ⟨kf, kf, kf, kf, kf, kf, kf, trivial⟩ (fun w hw => (Sat.less (.take .here (.take (.there .here) (.take (.there .here) (.drop .here .refl)))) hw)) ⟨true, H, rfl, rfl⟩
    ·replace H := bifF H h7
     refine sr 28 (.bool false) (run_eq (v := .bool (decide (state < (0 : Int)))) (fun _ => kf) (congrArg Value.bool h7)) ?_
     refine sp 29 (iv state) ?_
     refine sp 30 (.bool (decide ((2 : Int) < state))) ?_
     refine sp 31 (.bool (decide ((2 : Int) < state))) ?_
     rcases Bool.eq_false_or_eq_true (decide ((2 : Int) < state)) with h8 | h8
     ·replace H := bifT H h8
      refine sr 32 (.bool true) (run_eq (v := .bool (decide ((2 : Int) < state))) (fun _ => kf) (congrArg Value.bool h8)) ?_
      refine sa 33 ?_
      refine sa 34 ?_
      refine sp 35 (.bool true) ?_
      refine sp 36 (.bool true) ?_
      refine sa 37 ?_
      refine sa 38 ?_
      refine sa 39 ?_
      refine sa 40 ?_
      refine sa 41 ?_
      refine sa 42 ?_
      refine sa 43 ?_
      refine sp 44 (.bool true) ?_
      refine sp 25 (.bool true) ?_
      refine ops_end ?_
      refine ae [(0, .pointer (some ⟨d, 0, none⟩)), (1, iv line), (2, iv state), (3, iv head), (4, .slice dataa (List.length data) datacap), (11, .pointer (some ⟨b1_9, 0, none⟩)), (25, .bool true)] ?_
      refine at_round_normal ?_
      exact at_join_mk [(0, .pointer (some ⟨d, 0, none⟩)), (1, iv line), (2, iv state), (3, iv head), (4, .slice dataa (List.length data) datacap), (11, .pointer (some ⟨b1_9, 0, none⟩)), (25, .bool true)] ((DirA d dc) :: (Asn.own b1_9 (.cells #[iv x1_5.state, iv x1_5.head, .slice a1_5 (List.length x1_5.data) c1_5] 92 (0, 0))) :: (ImmI a1_5 x1_5.data) :: Γ) ⟨kf, kf, kf, kf, kf, kf, kf, trivial⟩ (fun w hw => (Sat.less (.take .here (.take (.there .here) (.take (.there .here) (.drop .here .refl)))) hw)) ⟨true, H, rfl, rfl⟩
     ·replace H := bifF H h8
      refine sr 32 (.bool false) (run_eq (v := .bool (decide ((2 : Int) < state))) (fun _ => kf) (congrArg Value.bool h8)) ?_
      refine sp 33 (iv head) ?_
      refine sp 34 (.bool (decide (head < ((-1) : Int)))) ?_
      refine sp 35 (.bool (decide (head < ((-1) : Int)))) ?_
      rcases Bool.eq_false_or_eq_true (decide (head < ((-1) : Int))) with h9 | h9
      ·replace H := bifT H h9
       refine sr 36 (.bool true) (run_eq (v := .bool (decide (head < ((-1) : Int)))) (fun _ => kf) (congrArg Value.bool h9)) ?_
       refine sa 37 ?_
       refine sa 38 ?_
       refine sa 39 ?_
       refine sa 40 ?_
       refine sa 41 ?_
       refine sa 42 ?_
       refine sa 43 ?_
       refine sp 44 (.bool true) ?_
       refine sp 25 (.bool true) ?_
       refine ops_end ?_
       refine ae [(0, .pointer (some ⟨d, 0, none⟩)), (1, iv line), (2, iv state), (3, iv head), (4, .slice dataa (List.length data) datacap), (11, .pointer (some ⟨b1_9, 0, none⟩)), (25, .bool true)] ?_
       refine at_round_normal ?_
       exact at_join_mk [(0, .pointer (some ⟨d, 0, none⟩)), (1, iv line), (2, iv state), (3, iv head), (4, .slice dataa (List.length data) datacap), (11, .pointer (some ⟨b1_9, 0, none⟩)), (25, .bool true)] ((DirA d dc) :: (Asn.own b1_9 (.cells #[iv x1_5.state, iv x1_5.head, .slice a1_5 (List.length x1_5.data) c1_5] 92 (0, 0))) :: (ImmI a1_5 x1_5.data) :: Γ) ⟨kf, kf, kf, kf, kf, kf, kf, trivial⟩ (fun w hw => (Sat.less (.take .here (.take (.there .here) (.take (.there .here) (.drop .here .refl)))) hw)) ⟨true, H, rfl, rfl⟩
      ·replace H := bifF H h9
       refine sr 36 (.bool false) (run_eq (v := .bool (decide (head < ((-1) : Int)))) (fun _ => kf) (congrArg Value.bool h9)) ?_
       refine sp 37 (iv head) ?_
       refine sp 38 (.pointer (some ⟨d, 0, none⟩)) ?_
       refine sp 39 (.pointer (some ⟨d, 0, none⟩)) ?_
       refine sp 40 (.pointer (some ⟨d, 0, none⟩)) ?_
       refine sp 41 (.pointer (some ⟨d, 0, none⟩)) ?_
       refine DirA.tox .here ?_
       intro x4_16_d
       refine DirXA.open .here ?_
       refine sl 42 (iv dc.c.nodes) (load1 (off := 0) (fun _ => kf) (holds_own .here) kf) ?_
       refine sp 43 (.bool (decide (dc.c.nodes ≤ head))) ?_
       refine sp 44 (.bool (decide (dc.c.nodes ≤ head))) ?_
       refine sp 25 (.bool (decide (dc.c.nodes ≤ head))) ?_
       refine ops_end ?_
       refine ae [(0, .pointer (some ⟨d, 0, none⟩)), (1, iv line), (2, iv state), (3, iv head), (4, .slice dataa (List.length data) datacap), (11, .pointer (some ⟨b1_9, 0, none⟩)), (25, .bool (decide (dc.c.nodes ≤ head)))] ?_
       refine at_round_normal ?_
       refine At.conv (Γ' := (DirXA d x4_16_d dc) :: (ImmI x4_16_d.a7 dc.c.init) :: (ImmI x1_3_d.a7 dc.c.init) :: (Asn.own b1_9 (.cells #[iv x1_5.state, iv x1_5.head, .slice a1_5 (List.length x1_5.data) c1_5] 92 (0, 0))) :: (ImmI a1_5 x1_5.data) :: Γ) (fun w hw => DirXA.close (x := x4_16_d) (t := dc) (Sat.less (.take (.there (.there .here)) (.take .here (.take (.there .here) (.take .here (.take .here (.take .here (.take .here .refl))))))) (ImmR.dup (Sat.less (.take (.there .here) (.take .here (.take .here (.take .here (.take .here (.take .here .refl)))))) hw)))) ?_
       refine At.conv (Γ' := (DirA d dc) :: (ImmI x4_16_d.a7 dc.c.init) :: (ImmI x1_3_d.a7 dc.c.init) :: (Asn.own b1_9 (.cells #[iv x1_5.state, iv x1_5.head, .slice a1_5 (List.length x1_5.data) c1_5] 92 (0, 0))) :: (ImmI a1_5 x1_5.data) :: Γ) (fun w hw => DirXA.shut (hw.pull .here)) ?_
       exact at_join_mk [(0, .pointer (some ⟨d, 0, none⟩)), (1, iv line), (2, iv state), (3, iv head), (4, .slice dataa (List.length data) datacap), (11, .pointer (some ⟨b1_9, 0, none⟩)), (25, .bool (decide (dc.c.nodes ≤ head)))] ((DirA d dc) :: (Asn.own b1_9 (.cells #[iv x1_5.state, iv x1_5.head, .slice a1_5 (List.length x1_5.data) c1_5] 92 (0, 0))) :: (ImmI a1_5 x1_5.data) :: Γ) ⟨kf, kf, kf, kf, kf, kf, kf, trivial⟩ (fun w hw => (Sat.less (.take .here (.take (.there (.there .here)) (.take (.there (.there .here)) (.drop .here (.drop .here .refl))))) hw)) ⟨decide (dc.c.nodes ≤ head), H, rfl, rfl⟩
end Go.Proofs.Ytcigheahollkcaa
