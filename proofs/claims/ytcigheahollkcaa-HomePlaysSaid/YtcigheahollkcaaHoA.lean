/- A home: each function answers what its plain function says. -/
import Derived.Test.YtcigheahollkcaaMdA
import Derived.Test.YtcigheahollkcaaSvA
namespace Go.Proofs.Ytcigheahollkcaa
open Go Go.RowKit
set_option linter.unusedVariables false
set_option linter.unusedSimpArgs false
def hnewS (c : CfgS) (node : Int) : Option (HomeS) :=
 (mnewS c node).bind fun y1_2 => (tnewS).bind fun y1_3 => some ({ dir := y1_2, turns := y1_3, c := c, node := node } : HomeS)
noncomputable def C8 (p : List Nat) : Code := codeAt (bodyOf Try.f8) p
set_option maxRecDepth 100000 in
set_option maxHeartbeats 8000000 in
theorem HNewF_tr {W0 : World} {Γ : List Asn} (ca : Option Addr) (ccap : Nat) (c : CfgS) (node : Int) (hcca : c.init.length ≤ ccap) (y : HomeS) (H : hnewS c node = some y) : Tr Try.prog 8 #[.agg #[iv c.nodes, iv c.lines, iv c.words, iv c.sets, iv c.ways, iv c.out, iv c.inn, .slice ca (List.length c.init) ccap], iv node] W0 ((ImmI ca c.init) :: Γ) (fun r Δ => ∃ (b0 : Nat), r = .pointer (some ⟨b0, 0, none⟩) ∧ Δ = (HomeA b0 y) :: Γ) := by
 unfold hnewS at H
 refine Tr.enter (fn := Try.f8) (c := C8 []) (args := [.agg #[iv c.nodes, iv c.lines, iv c.words, iv c.sets, iv c.ways, iv c.out, iv c.inn, .slice ca (List.length c.init) ccap], iv node]) 13 Try.func8 kf kf ?_
 refine ae [(0, .agg #[iv c.nodes, iv c.lines, iv c.words, iv c.sets, iv c.ways, iv c.out, iv c.inn, .slice ca (List.length c.init) ccap]), (1, iv node)] ?_
 refine aq (x := C8 [0]) (y := C8 [1]) ?_
 refine ar (id := 0) 2 ?_
 refine s_step 2 kf kf (st_new (T := 26) (cells := #[iv c.nodes, iv c.lines, iv c.words, iv c.sets, iv c.ways, iv c.out, iv c.inn, .slice ca (List.length c.init) ccap]) (fun a => .pointer (some a)) (fun _ => kf)) ?_
 rintro _ _ ⟨b0_0, rfl, rfl⟩
 refine sp 4 (.pointer none) ?_
 refine ops_end ?_
 refine ae [(1, iv node), (2, .pointer (some ⟨b0_0, 0, none⟩))] ?_
 refine at_then_normal ?_
 refine aq (x := C8 [1,0]) (y := C8 [1,1]) ?_
 refine at_region_draw (id := 1) kf kf ?_
 refine dl 0 5 (.agg #[iv c.nodes, iv c.lines, iv c.words, iv c.sets, iv c.ways, iv c.out, iv c.inn, .slice ca (List.length c.init) ccap]) (loadN (off := 0) (vs := [iv c.nodes, iv c.lines, iv c.words, iv c.sets, iv c.ways, iv c.out, iv c.inn, .slice ca (List.length c.init) ccap]) 8 (fun _ => kf) (holds_own .here) rfl (by exact ⟨rfl, rfl, rfl, rfl, rfl, rfl, rfl, rfl, trivial⟩)) ?_
 refine dp 1 6 (iv node) ?_
 refine dl 4 9 (.agg #[iv c.nodes, iv c.lines, iv c.words, iv c.sets, iv c.ways, iv c.out, iv c.inn, .slice ca (List.length c.init) ccap]) (loadN (off := 0) (vs := [iv c.nodes, iv c.lines, iv c.words, iv c.sets, iv c.ways, iv c.out, iv c.inn, .slice ca (List.length c.init) ccap]) 8 (fun _ => kf) (holds_own .here) rfl (by exact ⟨rfl, rfl, rfl, rfl, rfl, rfl, rfl, rfl, trivial⟩)) ?_
 refine dp 5 10 (iv node) ?_
 obtain ⟨y1_2, hy1_2, H⟩ := bindE H
 refine d_call 2 7 [0, 1] [5] [4] 25 #[.agg #[iv c.nodes, iv c.lines, iv c.words, iv c.sets, iv c.ways, iv c.out, iv c.inn, .slice ca (List.length c.init) ccap], iv node] kf kf kf (fun _ => kf) (Tr.conv (Γ' := (ImmI ca c.init) :: (ImmI ca c.init) :: (Asn.own b0_0 (.cells #[iv c.nodes, iv c.lines, iv c.words, iv c.sets, iv c.ways, iv c.out, iv c.inn, .slice ca (List.length c.init) ccap] 26 (0, 0))) :: Γ) (fun w hw => (Sat.less (.take .here (.take .here (.take .here .refl))) (ImmR.dup (Sat.less (.take (.there .here) (.take .here .refl)) hw)))) (MNewF_tr ca ccap c node hcca y1_2 hy1_2)) ?_
 rintro _ _ ⟨b1_2, rfl, rfl⟩
 refine ⟨(stable_cons 4 9 (.agg #[iv c.nodes, iv c.lines, iv c.words, iv c.sets, iv c.ways, iv c.out, iv c.inn, .slice ca (List.length c.init) ccap]) kf kf kf (loadN (off := 0) (vs := [iv c.nodes, iv c.lines, iv c.words, iv c.sets, iv c.ways, iv c.out, iv c.inn, .slice ca (List.length c.init) ccap]) 8 (fun _ => kf) (holds_own (.there (.there .here))) rfl (by exact ⟨rfl, rfl, rfl, rfl, rfl, rfl, rfl, rfl, trivial⟩)) stable_nil), ?_⟩
 obtain ⟨y1_3, hy1_3, H⟩ := bindE H
 refine d_call 3 8 [2, 0, 1] [5] [4] 26 #[] kf kf kf (fun _ => kf) (TNewF_tr  y1_3 hy1_3) ?_
 rintro _ _ ⟨b1_3, rfl, rfl⟩
 refine ⟨(stable_cons 4 9 (.agg #[iv c.nodes, iv c.lines, iv c.words, iv c.sets, iv c.ways, iv c.out, iv c.inn, .slice ca (List.length c.init) ccap]) kf kf kf (loadN (off := 0) (vs := [iv c.nodes, iv c.lines, iv c.words, iv c.sets, iv c.ways, iv c.out, iv c.inn, .slice ca (List.length c.init) ccap]) 8 (fun _ => kf) (holds_own (.there (.there (.there .here)))) rfl (by exact ⟨rfl, rfl, rfl, rfl, rfl, rfl, rfl, rfl, trivial⟩)) stable_nil), ?_⟩
 refine dp 6 11 (.agg #[.pointer (some ⟨b1_2, 0, none⟩), .pointer (some ⟨b1_3, 0, none⟩), iv c.nodes, iv c.lines, iv c.words, iv c.sets, iv c.ways, iv c.out, iv c.inn, .slice ca (List.length c.init) ccap, iv node]) ?_
 refine d_step 7 12 [6, 2, 3, 4, 5, 0, 1] [] [] kf kf kf (st_new (T := 42) (cells := #[.pointer (some ⟨b1_2, 0, none⟩), .pointer (some ⟨b1_3, 0, none⟩), iv c.nodes, iv c.lines, iv c.words, iv c.sets, iv c.ways, iv c.out, iv c.inn, .slice ca (List.length c.init) ccap, iv node]) (fun a => .pointer (some a)) (fun _ => kf)) ?_
 rintro _ _ ⟨b1_7, rfl, rfl⟩
 refine ⟨stable_nil, ?_⟩
 refine dp 8 4 (.pointer (some ⟨b1_7, 0, none⟩)) ?_
 refine draw_end kf ?_
 refine ae [(4, .pointer (some ⟨b1_7, 0, none⟩))] ?_
 refine at_then_normal ?_
 refine at_ret kf ?_
 refine At.conv (Γ' := (HomeXA b1_7 (⟨b1_2, b1_3, ca, ccap, 42⟩ : HomeXP) ({ dir := y1_2, turns := y1_3, c := c, node := node } : HomeS)) :: (ImmI ca c.init) :: (Asn.own b0_0 (.cells #[iv c.nodes, iv c.lines, iv c.words, iv c.sets, iv c.ways, iv c.out, iv c.inn, .slice ca (List.length c.init) ccap] 26 (0, 0))) :: Γ) (fun w hw => HomeXA.close (x := (⟨b1_2, b1_3, ca, ccap, 42⟩ : HomeXP)) (t := ({ dir := y1_2, turns := y1_3, c := c, node := node } : HomeS)) (Sat.less (.take (.there (.there .here)) (.take (.there (.there (.there .here))) (.take (.there (.there .here)) (.take .here (.take .here (.take .here .refl)))))) (ImmR.dup (Sat.less (.take (.there (.there (.there .here))) (.take .here (.take .here (.take .here (.take .here .refl))))) hw)))) ?_
 refine At.conv (Γ' := (HomeA b1_7 ({ dir := y1_2, turns := y1_3, c := c, node := node } : HomeS)) :: (ImmI ca c.init) :: (Asn.own b0_0 (.cells #[iv c.nodes, iv c.lines, iv c.words, iv c.sets, iv c.ways, iv c.out, iv c.inn, .slice ca (List.length c.init) ccap] 26 (0, 0))) :: Γ) (fun w hw => HomeXA.shut (hw.pull .here)) ?_
 obtain rfl := someE H
 refine at_backR [.pointer (some ⟨b1_7, 0, none⟩)] ((HomeA b1_7 ({ dir := y1_2, turns := y1_3, c := c, node := node } : HomeS)) :: Γ) (rs := [.tmp 4]) kf (.cons (.tmp kf) .nil) (fun w hw => (Sat.less (.take .here (.drop .here (.drop .here .refl))) hw)) ?_
 exact ⟨b1_7, rfl, rfl⟩
def hgrantedS (hc : HomeS) (line : Int) (who : Int) (id : Int) : Option (PktS) :=
 (mrowS hc.dir line).bind fun y1_5 => some (⟨7, hc.node, who, id, line, y1_5.1.head, y1_5.1.state, false, y1_5.1.data⟩ : PktS)
noncomputable def C30 (p : List Nat) : Code := codeAt (bodyOf Try.f30) p
set_option maxRecDepth 100000 in
set_option maxHeartbeats 8000000 in
theorem HGrantedF_tr {W0 : World} {Γ : List Asn} (h : Nat) (hc : HomeS) (line : Int) (who : Int) (id : Int)  (y : PktS) (H : hgrantedS hc line who id = some y) : Tr Try.prog 30 #[.pointer (some ⟨h, 0, none⟩), iv line, iv who, iv id] W0 ((HomeA h hc) :: Γ) (fun r Δ => ∃ (a0_0 : Option Addr) (c0_0 : Nat), r = .agg #[iv y.kind, iv y.src, iv y.dst, iv y.id, iv y.line, iv y.ptr, iv y.state, .bool y.flag, .slice a0_0 (List.length y.data) c0_0] ∧ Δ = (IntsA a0_0 c0_0 y.data) :: (HomeA h hc) :: Γ) := by
 unfold hgrantedS at H
 refine Tr.enter (fn := Try.f30) (c := C30 []) (args := [.pointer (some ⟨h, 0, none⟩), iv line, iv who, iv id]) 34 Try.func30 kf kf ?_
 refine ae [(0, .pointer (some ⟨h, 0, none⟩)), (1, iv line), (2, iv who), (3, iv id)] ?_
 refine aq (x := C30 [0]) (y := C30 [1]) ?_
 refine ar (id := 0) 1 ?_
 refine s_step 8 kf kf (st_new (T := 32) (cells := #[iv (0), iv (0), iv (0), iv (0), iv (0), iv (0), iv (0), .bool false, .slice none 0 0]) (fun a => .pointer (some a)) (fun _ => kf)) ?_
 rintro _ _ ⟨b0_0, rfl, rfl⟩
 refine ops_end ?_
 refine ae [(0, .pointer (some ⟨h, 0, none⟩)), (1, iv line), (2, iv who), (3, iv id), (8, .pointer (some ⟨b0_0, 0, none⟩))] ?_
 refine at_then_normal ?_
 refine aq (x := C30 [1,0]) (y := C30 [1,1]) ?_
 refine ar (id := 1) 12 ?_
 refine sp 12 (.pointer (some ⟨h, 0, none⟩)) ?_
 refine sp 13 (.pointer (some ⟨h, 0, none⟩)) ?_
 refine sp 14 (.pointer (some ⟨h, 0, none⟩)) ?_
 refine HomeA.tox (.there .here) ?_
 intro x1_3_h
 refine HomeXA.open .here ?_
 refine sl 15 (.pointer (some ⟨x1_3_h.b0, 0, none⟩)) (load1 (off := 0) (fun _ => kf) (holds_own .here) kf) ?_
 refine sp 16 (iv line) ?_
 obtain ⟨y1_5, hy1_5, H⟩ := bindE H
 refine s_call 17 44 #[.pointer (some ⟨x1_3_h.b0, 0, none⟩), iv line] kf kf (fun _ => kf) (Tr.conv (Γ' := (DirA x1_3_h.b0 hc.dir) :: (Asn.own h (.cells #[.pointer (some ⟨x1_3_h.b0, 0, none⟩), .pointer (some ⟨x1_3_h.b1, 0, none⟩), iv hc.c.nodes, iv hc.c.lines, iv hc.c.words, iv hc.c.sets, iv hc.c.ways, iv hc.c.out, iv hc.c.inn, .slice x1_3_h.a9 (List.length hc.c.init) x1_3_h.c9, iv hc.node] x1_3_h.T (0, 0))) :: (TurnsA x1_3_h.b1 hc.turns) :: (ImmI x1_3_h.a9 hc.c.init) :: (Asn.own b0_0 (.cells #[iv (0), iv (0), iv (0), iv (0), iv (0), iv (0), iv (0), .bool false, .slice none 0 0] 32 (0, 0))) :: Γ) (fun w hw => (Sat.less (.take (.there .here) (.take .here (.take .here (.take .here (.take .here .refl))))) hw)) (MRowF_tr x1_3_h.b0 hc.dir line y1_5 hy1_5)) ?_
 rintro _ _ ⟨a1_5_00, c1_5_00, rfl, rfl⟩
 refine sp 11 (.tuple #[.agg #[iv y1_5.1.state, iv y1_5.1.head, .slice a1_5_00 (List.length y1_5.1.data) c1_5_00], .bool y1_5.2]) ?_
 refine sp 18 (.agg #[iv y1_5.1.state, iv y1_5.1.head, .slice a1_5_00 (List.length y1_5.1.data) c1_5_00]) ?_
 refine sp 19 (.bool y1_5.2) ?_
 refine s_step 9 kf kf (st_new (T := 92) (cells := #[iv (0), iv (0), .slice none 0 0]) (fun a => .pointer (some a)) (fun _ => kf)) ?_
 rintro _ _ ⟨b1_9, rfl, rfl⟩
 refine s_do kf kf (st_store (off := 0) (vs := [iv y1_5.1.state, iv y1_5.1.head, .slice a1_5_00 (List.length y1_5.1.data) c1_5_00]) (c' := #[iv y1_5.1.state, iv y1_5.1.head, .slice a1_5_00 (List.length y1_5.1.data) c1_5_00]) (fun _ => kf) .here kf kf kf) ?_
 rintro _ _ ⟨rfl, rfl⟩
 refine sp 10 (.bool y1_5.2) ?_
 refine ops_end ?_
 refine ae [(0, .pointer (some ⟨h, 0, none⟩)), (1, iv line), (2, iv who), (3, iv id), (8, .pointer (some ⟨b0_0, 0, none⟩)), (9, .pointer (some ⟨b1_9, 0, none⟩))] ?_
 refine at_then_normal ?_
 refine At.conv (Γ' := (HomeXA h x1_3_h hc) :: (ImmI x1_3_h.a9 hc.c.init) :: (Asn.own b1_9 (.cells #[iv y1_5.1.state, iv y1_5.1.head, .slice a1_5_00 (List.length y1_5.1.data) c1_5_00] 92 (0, 0))) :: (IntsA a1_5_00 c1_5_00 y1_5.1.data) :: (Asn.own b0_0 (.cells #[iv (0), iv (0), iv (0), iv (0), iv (0), iv (0), iv (0), .bool false, .slice none 0 0] 32 (0, 0))) :: Γ) (fun w hw => HomeXA.close (x := x1_3_h) (t := hc) (Sat.less (.take (.there (.there (.there (.there (.there .here))))) (.take (.there (.there (.there (.there .here)))) (.take (.there (.there (.there (.there .here)))) (.take .here (.take .here (.take .here (.take .here (.take .here .refl)))))))) (ImmR.dup (Sat.less (.take (.there (.there (.there (.there (.there .here))))) (.take .here (.take .here (.take .here (.take .here (.take .here (.take .here .refl))))))) hw)))) ?_
 refine At.conv (Γ' := (HomeA h hc) :: (ImmI x1_3_h.a9 hc.c.init) :: (Asn.own b1_9 (.cells #[iv y1_5.1.state, iv y1_5.1.head, .slice a1_5_00 (List.length y1_5.1.data) c1_5_00] 92 (0, 0))) :: (IntsA a1_5_00 c1_5_00 y1_5.1.data) :: (Asn.own b0_0 (.cells #[iv (0), iv (0), iv (0), iv (0), iv (0), iv (0), iv (0), .bool false, .slice none 0 0] 32 (0, 0))) :: Γ) (fun w hw => HomeXA.shut (hw.pull .here)) ?_
 refine aq (x := C30 [1,1,0]) (y := C30 [1,1,1]) ?_
 refine at_region_draw (id := 2) kf kf ?_
 refine dp 0 20 (.pointer (some ⟨h, 0, none⟩)) ?_
 refine dp 1 21 (.pointer (some ⟨h, 0, none⟩)) ?_
 refine dp 2 22 (.pointer (some ⟨h, 10, none⟩)) ?_
 refine HomeA.tox_draw .here ?_
 intro x2_3_h
 refine HomeXA.open_draw .here ?_
 refine dl 3 23 (iv hc.node) (load1 (off := 10) (fun _ => kf) (holds_own .here) kf) ?_
 refine dp 4 24 (iv who) ?_
 refine dp 5 25 (iv id) ?_
 refine dp 6 26 (iv line) ?_
 refine dp 7 27 (.pointer (some ⟨b1_9, 0, none⟩)) ?_
 refine dl 8 28 (iv y1_5.1.state) (load1 (off := 0) (fun _ => kf) (holds_own (.there (.there (.there (.there (.there .here)))))) kf) ?_
 refine dp 9 29 (.pointer (some ⟨b1_9, 1, none⟩)) ?_
 refine dl 10 30 (iv y1_5.1.head) (load1 (off := 1) (fun _ => kf) (holds_own (.there (.there (.there (.there (.there .here)))))) kf) ?_
 refine dp 11 31 (.pointer (some ⟨b1_9, 2, none⟩)) ?_
 refine dl 12 32 (.slice a1_5_00 (List.length y1_5.1.data) c1_5_00) (load1 (off := 2) (fun _ => kf) (holds_own (.there (.there (.there (.there (.there .here)))))) kf) ?_
 refine dp 13 33 (.agg #[iv (7), iv hc.node, iv who, iv id, iv line, iv y1_5.1.head, iv y1_5.1.state, .bool false, .slice a1_5_00 (List.length y1_5.1.data) c1_5_00]) ?_
 refine d_do 14 [13, 0, 1, 2, 3, 4, 5, 6, 7, 8, 9, 10, 11, 12] [] [] kf kf kf (st_store (off := 0) (vs := [iv (7), iv hc.node, iv who, iv id, iv line, iv y1_5.1.head, iv y1_5.1.state, .bool false, .slice a1_5_00 (List.length y1_5.1.data) c1_5_00]) (c' := #[iv (7), iv hc.node, iv who, iv id, iv line, iv y1_5.1.head, iv y1_5.1.state, .bool false, .slice a1_5_00 (List.length y1_5.1.data) c1_5_00]) (fun _ => kf) (.there (.there (.there (.there (.there (.there (.there .here))))))) kf kf kf) ?_
 rintro _ _ ⟨rfl, rfl⟩
 refine ⟨stable_nil, ?_⟩
 refine draw_end kf ?_
 refine ae [(8, .pointer (some ⟨b0_0, 0, none⟩))] ?_
 refine at_then_normal ?_
 refine at_ret kf ?_
 refine At.conv (Γ' := (HomeXA h x2_3_h hc) :: (ImmI x2_3_h.a9 hc.c.init) :: (Asn.own b0_0 (.cells #[iv (7), iv hc.node, iv who, iv id, iv line, iv y1_5.1.head, iv y1_5.1.state, .bool false, .slice a1_5_00 (List.length y1_5.1.data) c1_5_00] 32 (0, 0))) :: (ImmI x1_3_h.a9 hc.c.init) :: (Asn.own b1_9 (.cells #[iv y1_5.1.state, iv y1_5.1.head, .slice a1_5_00 (List.length y1_5.1.data) c1_5_00] 92 (0, 0))) :: (IntsA a1_5_00 c1_5_00 y1_5.1.data) :: Γ) (fun w hw => HomeXA.close (x := x2_3_h) (t := hc) (Sat.less (.take (.there (.there (.there .here))) (.take (.there (.there (.there .here))) (.take (.there (.there (.there .here))) (.take .here (.take .here (.take .here (.take .here (.take .here (.take .here .refl))))))))) (ImmR.dup (Sat.less (.take (.there (.there (.there (.there .here)))) (.take .here (.take .here (.take .here (.take .here (.take .here (.take .here (.take .here .refl)))))))) hw)))) ?_
 refine At.conv (Γ' := (HomeA h hc) :: (ImmI x2_3_h.a9 hc.c.init) :: (Asn.own b0_0 (.cells #[iv (7), iv hc.node, iv who, iv id, iv line, iv y1_5.1.head, iv y1_5.1.state, .bool false, .slice a1_5_00 (List.length y1_5.1.data) c1_5_00] 32 (0, 0))) :: (ImmI x1_3_h.a9 hc.c.init) :: (Asn.own b1_9 (.cells #[iv y1_5.1.state, iv y1_5.1.head, .slice a1_5_00 (List.length y1_5.1.data) c1_5_00] 92 (0, 0))) :: (IntsA a1_5_00 c1_5_00 y1_5.1.data) :: Γ) (fun w hw => HomeXA.shut (hw.pull .here)) ?_
 obtain rfl := someE H
 refine at_backR [.agg #[iv (7), iv hc.node, iv who, iv id, iv line, iv y1_5.1.head, iv y1_5.1.state, .bool false, .slice a1_5_00 (List.length y1_5.1.data) c1_5_00]] ((IntsA a1_5_00 c1_5_00 y1_5.1.data) :: (HomeA h hc) :: Γ) (rs := [.cell 8 32]) kf (.cons (.cell kf (retN (off := 0) (vs := [iv (7), iv hc.node, iv who, iv id, iv line, iv y1_5.1.head, iv y1_5.1.state, .bool false, .slice a1_5_00 (List.length y1_5.1.data) c1_5_00]) 9 (fun _ => kf) (holds_own (.there (.there .here))) rfl (by exact ⟨rfl, rfl, rfl, rfl, rfl, rfl, rfl, rfl, rfl, trivial⟩))) .nil) (fun w hw => (Sat.less (.take (.there (.there (.there (.there (.there .here))))) (.take .here (.drop .here (.drop .here (.drop .here (.drop .here .refl)))))) hw)) ?_
 exact ⟨a1_5_00, c1_5_00, rfl, rfl⟩
def hunlockS (hc : HomeS) (p : PktS) : Option (Int × HomeS) :=
 (townerS hc.turns p.line).bind fun y1_6 => (bif !(decide (y1_6 = p.src)) then some ((6 : Int), hc) else (bif p.flag then (msetS hc.dir p.line p.state p.ptr p.data).bind fun y6_11 => (bif !(decide (y6_11.1 = (0 : Int))) then some (y6_11.1, ({ dir := y6_11.2, turns := hc.turns, c := hc.c, node := hc.node } : HomeS)) else (treleaseS hc.turns p.line p.src).bind fun y9_8 => some (y9_8.1, ({ dir := y6_11.2, turns := y9_8.2, c := hc.c, node := hc.node } : HomeS))) else (msetS hc.dir p.line p.state p.ptr ([] : List Int)).bind fun y6_11 => (bif !(decide (y6_11.1 = (0 : Int))) then some (y6_11.1, ({ dir := y6_11.2, turns := hc.turns, c := hc.c, node := hc.node } : HomeS)) else (treleaseS hc.turns p.line p.src).bind fun y9_8 => some (y9_8.1, ({ dir := y6_11.2, turns := y9_8.2, c := hc.c, node := hc.node } : HomeS)))))
noncomputable def C31 (p : List Nat) : Code := codeAt (bodyOf Try.f31) p
set_option maxRecDepth 100000 in
set_option maxHeartbeats 8000000 in
theorem HUnlockF_tr {W0 : World} {Γ : List Asn} (h : Nat) (hc : HomeS) (pa : Option Addr) (pcap : Nat) (p : PktS) (hrpa : Reads W0 Γ pa (ints p.data)) (y : Int × HomeS) (H : hunlockS hc p = some y) : Tr Try.prog 31 #[.pointer (some ⟨h, 0, none⟩), .agg #[iv p.kind, iv p.src, iv p.dst, iv p.id, iv p.line, iv p.ptr, iv p.state, .bool p.flag, .slice pa (List.length p.data) pcap]] W0 ((HomeA h hc) :: Γ) (fun r Δ => r = iv y.1 ∧ Δ = (HomeA h y.2) :: Γ) := by
 unfold hunlockS at H
 refine Tr.enter (fn := Try.f31) (c := C31 []) (args := [.pointer (some ⟨h, 0, none⟩), .agg #[iv p.kind, iv p.src, iv p.dst, iv p.id, iv p.line, iv p.ptr, iv p.state, .bool p.flag, .slice pa (List.length p.data) pcap]]) 45 Try.func31 kf kf ?_
 refine ae [(0, .pointer (some ⟨h, 0, none⟩)), (1, .agg #[iv p.kind, iv p.src, iv p.dst, iv p.id, iv p.line, iv p.ptr, iv p.state, .bool p.flag, .slice pa (List.length p.data) pcap])] ?_
 refine aq (x := C31 [0]) (y := C31 [1]) ?_
 refine ar (id := 0) 2 ?_
 refine s_step 3 kf kf (st_new (T := 32) (cells := #[iv p.kind, iv p.src, iv p.dst, iv p.id, iv p.line, iv p.ptr, iv p.state, .bool p.flag, .slice pa (List.length p.data) pcap]) (fun a => .pointer (some a)) (fun _ => kf)) ?_
 rintro _ _ ⟨b0_0, rfl, rfl⟩
 refine sp 4 (iv (0)) ?_
 refine ops_end ?_
 refine ae [(0, .pointer (some ⟨h, 0, none⟩)), (3, .pointer (some ⟨b0_0, 0, none⟩))] ?_
 refine at_then_normal ?_
 refine aq (x := C31 [1,0]) (y := C31 [1,1]) ?_
 refine aq (x := C31 [1,0,0]) (y := C31 [1,0,1]) ?_
 refine at_region_draw (id := 1) kf kf ?_
 refine dp 0 7 (.pointer (some ⟨h, 0, none⟩)) ?_
 refine dp 1 8 (.pointer (some ⟨h, 0, none⟩)) ?_
 refine dp 2 9 (.pointer (some ⟨h, 1, none⟩)) ?_
 refine HomeA.tox_draw (.there .here) ?_
 intro x1_3_h
 refine HomeXA.open_draw .here ?_
 refine dl 3 10 (.pointer (some ⟨x1_3_h.b1, 0, none⟩)) (load1 (off := 1) (fun _ => kf) (holds_own .here) kf) ?_
 refine dp 4 11 (.pointer (some ⟨b0_0, 4, none⟩)) ?_
 refine dl 5 12 (iv p.line) (load1 (off := 4) (fun _ => kf) (holds_own (.there (.there (.there (.there .here))))) kf) ?_
 refine dp 7 14 (.pointer (some ⟨b0_0, 1, none⟩)) ?_
 refine dl 8 15 (iv p.src) (load1 (off := 1) (fun _ => kf) (holds_own (.there (.there (.there (.there .here))))) kf) ?_
 obtain ⟨y1_6, hy1_6, H⟩ := bindE H
 refine d_call 6 13 [3, 5, 2, 4, 1, 0] [7] [8] 11 #[.pointer (some ⟨x1_3_h.b1, 0, none⟩), iv p.line] kf kf kf (fun _ => kf) (Tr.conv (Γ' := (TurnsA x1_3_h.b1 hc.turns) :: (Asn.own h (.cells #[.pointer (some ⟨x1_3_h.b0, 0, none⟩), .pointer (some ⟨x1_3_h.b1, 0, none⟩), iv hc.c.nodes, iv hc.c.lines, iv hc.c.words, iv hc.c.sets, iv hc.c.ways, iv hc.c.out, iv hc.c.inn, .slice x1_3_h.a9 (List.length hc.c.init) x1_3_h.c9, iv hc.node] x1_3_h.T (0, 0))) :: (DirA x1_3_h.b0 hc.dir) :: (ImmI x1_3_h.a9 hc.c.init) :: (Asn.own b0_0 (.cells #[iv p.kind, iv p.src, iv p.dst, iv p.id, iv p.line, iv p.ptr, iv p.state, .bool p.flag, .slice pa (List.length p.data) pcap] 32 (0, 0))) :: Γ) (fun w hw => (Sat.less (.take (.there (.there .here)) (.take .here (.take .here (.take .here (.take .here .refl))))) hw)) (TOwnerF_tr x1_3_h.b1 hc.turns p.line y1_6 hy1_6)) ?_
 rintro _ _ ⟨rfl, rfl⟩
 refine ⟨(stable_cons 8 15 (iv p.src) kf kf kf (load1 (off := 1) (fun _ => kf) (holds_own (.there (.there (.there (.there .here))))) kf) stable_nil), ?_⟩
 refine dp 9 16 (.bool (!(decide (y1_6 = p.src)))) ?_
 refine draw_end kf ?_
 refine ae [(0, .pointer (some ⟨h, 0, none⟩)), (3, .pointer (some ⟨b0_0, 0, none⟩)), (16, .bool (!(decide (y1_6 = p.src))))] ?_
 refine at_then_normal ?_
 rcases Bool.eq_false_or_eq_true (!(decide (y1_6 = p.src))) with h1 | h1
 ·replace H := bifT H h1
  refine at_true (t := !(decide (y1_6 = p.src))) (x := C31 [1,0,1,0]) (y := C31 [1,0,1,1]) (o := .tmp 16) kf kf kf h1 ?_
  refine aq (x := C31 [1,0,1,0,0]) (y := C31 [1,0,1,0,1]) ?_
  refine ar (id := 2) 1 ?_
  refine sp 4 (iv (6)) ?_
  refine ops_end ?_
  refine ae [(4, iv (6))] ?_
  refine at_then_normal ?_
  refine at_ret kf ?_
  refine at_then_ret ?_
  refine At.conv (Γ' := (HomeXA h x1_3_h hc) :: (ImmI x1_3_h.a9 hc.c.init) :: (Asn.own b0_0 (.cells #[iv p.kind, iv p.src, iv p.dst, iv p.id, iv p.line, iv p.ptr, iv p.state, .bool p.flag, .slice pa (List.length p.data) pcap] 32 (0, 0))) :: Γ) (fun w hw => HomeXA.close (x := x1_3_h) (t := hc) (Sat.less (.take (.there (.there (.there .here))) (.take (.there (.there (.there .here))) (.take (.there (.there .here)) (.take .here (.take .here (.take .here .refl)))))) (ImmR.dup (Sat.less (.take (.there (.there (.there .here))) (.take .here (.take .here (.take .here (.take .here .refl))))) hw)))) ?_
  refine At.conv (Γ' := (HomeA h hc) :: (ImmI x1_3_h.a9 hc.c.init) :: (Asn.own b0_0 (.cells #[iv p.kind, iv p.src, iv p.dst, iv p.id, iv p.line, iv p.ptr, iv p.state, .bool p.flag, .slice pa (List.length p.data) pcap] 32 (0, 0))) :: Γ) (fun w hw => HomeXA.shut (hw.pull .here)) ?_
  obtain rfl := someE H
  refine at_backR [iv (6)] ((HomeA h hc) :: Γ) (rs := [.tmp 4]) kf (.cons (.tmp kf) .nil) (fun w hw => (Sat.less (.take .here (.drop .here (.drop .here .refl))) hw)) ?_
  exact ⟨rfl, rfl⟩
 ·replace H := bifF H h1
  refine at_false (t := !(decide (y1_6 = p.src))) (x := C31 [1,0,1,0]) (y := C31 [1,0,1,1]) (o := .tmp 16) kf kf kf h1 ?_
  refine at_skip kf ?_
  refine at_then_normal ?_
  refine aq (x := C31 [1,1,0]) (y := C31 [1,1,1]) ?_
  refine ar (id := 3) 1 ?_
  refine sp 5 (.slice none 0 0) ?_
  refine ops_end ?_
  refine ae [(0, .pointer (some ⟨h, 0, none⟩)), (3, .pointer (some ⟨b0_0, 0, none⟩)), (5, .slice none 0 0)] ?_
  refine at_then_normal ?_
  refine aq (x := C31 [1,1,1,0]) (y := C31 [1,1,1,1]) ?_
  refine aq (x := C31 [1,1,1,0,0]) (y := C31 [1,1,1,0,1]) ?_
  refine ar (id := 4) 2 ?_
  refine sp 17 (.pointer (some ⟨b0_0, 7, none⟩)) ?_
  refine sl 18 (.bool p.flag) (load1 (off := 7) (fun _ => kf) (holds_own (.there (.there (.there (.there .here))))) kf) ?_
  refine ops_end ?_
  refine ae [(0, .pointer (some ⟨h, 0, none⟩)), (3, .pointer (some ⟨b0_0, 0, none⟩)), (5, .slice none 0 0), (18, .bool p.flag)] ?_
  refine at_then_normal ?_
  rcases Bool.eq_false_or_eq_true (p.flag) with h2 | h2
  ·replace H := bifT H h2
   refine at_true (t := p.flag) (x := C31 [1,1,1,0,1,0]) (y := C31 [1,1,1,0,1,1]) (o := .tmp 18) kf kf kf h2 ?_
   refine ar (id := 5) 3 ?_
   refine sp 19 (.pointer (some ⟨b0_0, 8, none⟩)) ?_
   refine sl 20 (.slice pa (List.length p.data) pcap) (load1 (off := 8) (fun _ => kf) (holds_own (.there (.there (.there (.there .here))))) kf) ?_
   refine sp 5 (.slice pa (List.length p.data) pcap) ?_
   refine ops_end ?_
   refine ae [(0, .pointer (some ⟨h, 0, none⟩)), (3, .pointer (some ⟨b0_0, 0, none⟩)), (5, .slice pa (List.length p.data) pcap)] ?_
   refine at_then_normal ?_
   refine aq (x := C31 [1,1,1,1,0]) (y := C31 [1,1,1,1,1]) ?_
   refine aq (x := C31 [1,1,1,1,0,0]) (y := C31 [1,1,1,1,0,1]) ?_
   refine At.conv (Γ' := (HomeXA h x1_3_h hc) :: (ImmI x1_3_h.a9 hc.c.init) :: (Asn.own b0_0 (.cells #[iv p.kind, iv p.src, iv p.dst, iv p.id, iv p.line, iv p.ptr, iv p.state, .bool p.flag, .slice pa (List.length p.data) pcap] 32 (0, 0))) :: Γ) (fun w hw => HomeXA.close (x := x1_3_h) (t := hc) (Sat.less (.take (.there (.there (.there .here))) (.take (.there (.there (.there .here))) (.take (.there (.there .here)) (.take .here (.take .here (.take .here .refl)))))) (ImmR.dup (Sat.less (.take (.there (.there (.there .here))) (.take .here (.take .here (.take .here (.take .here .refl))))) hw)))) ?_
   refine at_region_draw (id := 6) kf kf ?_
   refine dp 0 21 (.pointer (some ⟨h, 0, none⟩)) ?_
   refine dp 1 22 (.pointer (some ⟨h, 0, none⟩)) ?_
   refine dp 2 23 (.pointer (some ⟨h, 0, none⟩)) ?_
   refine HomeXA.open_draw .here ?_
   refine dl 3 24 (.pointer (some ⟨x1_3_h.b0, 0, none⟩)) (load1 (off := 0) (fun _ => kf) (holds_own .here) kf) ?_
   refine dp 4 25 (.pointer (some ⟨b0_0, 4, none⟩)) ?_
   refine dl 5 26 (iv p.line) (load1 (off := 4) (fun _ => kf) (holds_own (.there (.there (.there (.there (.there .here)))))) kf) ?_
   refine dp 6 27 (.pointer (some ⟨b0_0, 6, none⟩)) ?_
   refine dl 7 28 (iv p.state) (load1 (off := 6) (fun _ => kf) (holds_own (.there (.there (.there (.there (.there .here)))))) kf) ?_
   refine dp 8 29 (.pointer (some ⟨b0_0, 5, none⟩)) ?_
   refine dl 9 30 (iv p.ptr) (load1 (off := 5) (fun _ => kf) (holds_own (.there (.there (.there (.there (.there .here)))))) kf) ?_
   refine dp 10 31 (.slice pa (List.length p.data) pcap) ?_
   obtain ⟨y6_11, hy6_11, H⟩ := bindE H
   refine d_call 11 32 [3, 5, 7, 9, 10, 2, 4, 6, 8, 1, 0] [] [] 51 #[.pointer (some ⟨x1_3_h.b0, 0, none⟩), iv p.line, iv p.state, iv p.ptr, .slice pa (List.length p.data) pcap] kf kf kf (fun _ => kf) (Tr.conv (Γ' := (DirA x1_3_h.b0 hc.dir) :: (Asn.own h (.cells #[.pointer (some ⟨x1_3_h.b0, 0, none⟩), .pointer (some ⟨x1_3_h.b1, 0, none⟩), iv hc.c.nodes, iv hc.c.lines, iv hc.c.words, iv hc.c.sets, iv hc.c.ways, iv hc.c.out, iv hc.c.inn, .slice x1_3_h.a9 (List.length hc.c.init) x1_3_h.c9, iv hc.node] x1_3_h.T (0, 0))) :: (TurnsA x1_3_h.b1 hc.turns) :: (ImmI x1_3_h.a9 hc.c.init) :: (ImmI x1_3_h.a9 hc.c.init) :: (Asn.own b0_0 (.cells #[iv p.kind, iv p.src, iv p.dst, iv p.id, iv p.line, iv p.ptr, iv p.state, .bool p.flag, .slice pa (List.length p.data) pcap] 32 (0, 0))) :: Γ) (fun w hw => (Sat.less (.take (.there .here) (.take .here (.take .here (.take .here (.take .here (.take .here .refl)))))) hw)) (MSetF_tr x1_3_h.b0 hc.dir p.line p.state p.ptr pa pcap p.data (Reads.conv (fun w hw => hw.less (.drop .here (.drop .here (.drop .here (.drop .here (.drop .here .refl)))))) hrpa) y6_11 hy6_11)) ?_
   rintro _ _ ⟨rfl, rfl⟩
   refine ⟨stable_nil, ?_⟩
   refine dp 12 6 (iv y6_11.1) ?_
   refine draw_end kf ?_
   refine ae [(0, .pointer (some ⟨h, 0, none⟩)), (3, .pointer (some ⟨b0_0, 0, none⟩)), (6, iv y6_11.1)] ?_
   refine at_then_normal ?_
   refine aq (x := C31 [1,1,1,1,0,1,0]) (y := C31 [1,1,1,1,0,1,1]) ?_
   refine ar (id := 7) 2 ?_
   refine sp 33 (iv y6_11.1) ?_
   refine sp 34 (.bool (!(decide (y6_11.1 = (0 : Int))))) ?_
   refine ops_end ?_
   refine ae [(0, .pointer (some ⟨h, 0, none⟩)), (3, .pointer (some ⟨b0_0, 0, none⟩)), (6, iv y6_11.1), (34, .bool (!(decide (y6_11.1 = (0 : Int)))))] ?_
   refine at_then_normal ?_
   rcases Bool.eq_false_or_eq_true (!(decide (y6_11.1 = (0 : Int)))) with h3 | h3
   ·replace H := bifT H h3
    refine at_true (t := !(decide (y6_11.1 = (0 : Int)))) (x := C31 [1,1,1,1,0,1,1,0]) (y := C31 [1,1,1,1,0,1,1,1]) (o := .tmp 34) kf kf kf h3 ?_
    refine aq (x := C31 [1,1,1,1,0,1,1,0,0]) (y := C31 [1,1,1,1,0,1,1,0,1]) ?_
    refine ar (id := 8) 2 ?_
    refine sp 35 (iv y6_11.1) ?_
    refine sp 4 (iv y6_11.1) ?_
    refine ops_end ?_
    refine ae [(4, iv y6_11.1)] ?_
    refine at_then_normal ?_
    refine at_ret kf ?_
    refine at_then_ret ?_
    refine At.conv (Γ' := (HomeXA h x1_3_h ({ dir := y6_11.2, turns := hc.turns, c := hc.c, node := hc.node } : HomeS)) :: (ImmI x1_3_h.a9 hc.c.init) :: (ImmI x1_3_h.a9 hc.c.init) :: (Asn.own b0_0 (.cells #[iv p.kind, iv p.src, iv p.dst, iv p.id, iv p.line, iv p.ptr, iv p.state, .bool p.flag, .slice pa (List.length p.data) pcap] 32 (0, 0))) :: Γ) (fun w hw => HomeXA.close (x := x1_3_h) (t := ({ dir := y6_11.2, turns := hc.turns, c := hc.c, node := hc.node } : HomeS)) (Sat.less (.take (.there (.there (.there .here))) (.take (.there (.there .here)) (.take (.there (.there .here)) (.take .here (.take .here (.take .here (.take .here .refl))))))) (ImmR.dup (Sat.less (.take (.there (.there (.there .here))) (.take .here (.take .here (.take .here (.take .here (.take .here .refl)))))) hw)))) ?_
    refine At.conv (Γ' := (HomeA h ({ dir := y6_11.2, turns := hc.turns, c := hc.c, node := hc.node } : HomeS)) :: (ImmI x1_3_h.a9 hc.c.init) :: (ImmI x1_3_h.a9 hc.c.init) :: (Asn.own b0_0 (.cells #[iv p.kind, iv p.src, iv p.dst, iv p.id, iv p.line, iv p.ptr, iv p.state, .bool p.flag, .slice pa (List.length p.data) pcap] 32 (0, 0))) :: Γ) (fun w hw => HomeXA.shut (hw.pull .here)) ?_
    obtain rfl := someE H
    refine at_backR [iv y6_11.1] ((HomeA h ({ dir := y6_11.2, turns := hc.turns, c := hc.c, node := hc.node } : HomeS)) :: Γ) (rs := [.tmp 4]) kf (.cons (.tmp kf) .nil) (fun w hw => (Sat.less (.take .here (.drop .here (.drop .here (.drop .here .refl)))) hw)) ?_
    exact ⟨rfl, rfl⟩
   ·replace H := bifF H h3
    refine at_false (t := !(decide (y6_11.1 = (0 : Int)))) (x := C31 [1,1,1,1,0,1,1,0]) (y := C31 [1,1,1,1,0,1,1,1]) (o := .tmp 34) kf kf kf h3 ?_
    refine at_skip kf ?_
    refine at_then_normal ?_
    refine aq (x := C31 [1,1,1,1,1,0]) (y := C31 [1,1,1,1,1,1]) ?_
    refine At.conv (Γ' := (HomeXA h x1_3_h ({ dir := y6_11.2, turns := hc.turns, c := hc.c, node := hc.node } : HomeS)) :: (ImmI x1_3_h.a9 hc.c.init) :: (ImmI x1_3_h.a9 hc.c.init) :: (Asn.own b0_0 (.cells #[iv p.kind, iv p.src, iv p.dst, iv p.id, iv p.line, iv p.ptr, iv p.state, .bool p.flag, .slice pa (List.length p.data) pcap] 32 (0, 0))) :: Γ) (fun w hw => HomeXA.close (x := x1_3_h) (t := ({ dir := y6_11.2, turns := hc.turns, c := hc.c, node := hc.node } : HomeS)) (Sat.less (.take (.there (.there (.there .here))) (.take (.there (.there .here)) (.take (.there (.there .here)) (.take .here (.take .here (.take .here (.take .here .refl))))))) (ImmR.dup (Sat.less (.take (.there (.there (.there .here))) (.take .here (.take .here (.take .here (.take .here (.take .here .refl)))))) hw)))) ?_
    refine at_region_draw (id := 9) kf kf ?_
    refine dp 0 36 (.pointer (some ⟨h, 0, none⟩)) ?_
    refine dp 1 37 (.pointer (some ⟨h, 0, none⟩)) ?_
    refine dp 2 38 (.pointer (some ⟨h, 1, none⟩)) ?_
    refine HomeXA.open_draw .here ?_
    refine Draw.conv (Γ' := (Asn.own h (.cells #[.pointer (some ⟨x1_3_h.b0, 0, none⟩), .pointer (some ⟨x1_3_h.b1, 0, none⟩), iv hc.c.nodes, iv hc.c.lines, iv hc.c.words, iv hc.c.sets, iv hc.c.ways, iv hc.c.out, iv hc.c.inn, .slice x1_3_h.a9 (List.length hc.c.init) x1_3_h.c9, iv hc.node] x1_3_h.T (0, 0))) :: (DirA x1_3_h.b0 y6_11.2) :: (TurnsA x1_3_h.b1 hc.turns) :: (ImmI x1_3_h.a9 hc.c.init) :: (ImmI x1_3_h.a9 hc.c.init) :: (ImmI x1_3_h.a9 hc.c.init) :: (Asn.own b0_0 (.cells #[iv p.kind, iv p.src, iv p.dst, iv p.id, iv p.line, iv p.ptr, iv p.state, .bool p.flag, .slice pa (List.length p.data) pcap] 32 (0, 0))) :: Γ) (fun w hw => hw) (fun w hw => hw) ?_
    refine dl 3 39 (.pointer (some ⟨x1_3_h.b1, 0, none⟩)) (load1 (off := 1) (fun _ => kf) (holds_own .here) kf) ?_
    refine dp 4 40 (.pointer (some ⟨b0_0, 4, none⟩)) ?_
    refine dl 5 41 (iv p.line) (load1 (off := 4) (fun _ => kf) (holds_own (.there (.there (.there (.there (.there (.there .here))))))) kf) ?_
    refine dp 6 42 (.pointer (some ⟨b0_0, 1, none⟩)) ?_
    refine dl 7 43 (iv p.src) (load1 (off := 1) (fun _ => kf) (holds_own (.there (.there (.there (.there (.there (.there .here))))))) kf) ?_
    obtain ⟨y9_8, hy9_8, H⟩ := bindE H
    refine d_call 8 44 [3, 5, 7, 2, 4, 6, 1, 0] [] [] 52 #[.pointer (some ⟨x1_3_h.b1, 0, none⟩), iv p.line, iv p.src] kf kf kf (fun _ => kf) (Tr.conv (Γ' := (TurnsA x1_3_h.b1 hc.turns) :: (Asn.own h (.cells #[.pointer (some ⟨x1_3_h.b0, 0, none⟩), .pointer (some ⟨x1_3_h.b1, 0, none⟩), iv hc.c.nodes, iv hc.c.lines, iv hc.c.words, iv hc.c.sets, iv hc.c.ways, iv hc.c.out, iv hc.c.inn, .slice x1_3_h.a9 (List.length hc.c.init) x1_3_h.c9, iv hc.node] x1_3_h.T (0, 0))) :: (DirA x1_3_h.b0 y6_11.2) :: (ImmI x1_3_h.a9 hc.c.init) :: (ImmI x1_3_h.a9 hc.c.init) :: (ImmI x1_3_h.a9 hc.c.init) :: (Asn.own b0_0 (.cells #[iv p.kind, iv p.src, iv p.dst, iv p.id, iv p.line, iv p.ptr, iv p.state, .bool p.flag, .slice pa (List.length p.data) pcap] 32 (0, 0))) :: Γ) (fun w hw => (Sat.less (.take (.there (.there .here)) (.take .here (.take .here (.take .here (.take .here (.take .here (.take .here .refl))))))) hw)) (TReleaseF_tr x1_3_h.b1 hc.turns p.line p.src y9_8 hy9_8)) ?_
    rintro _ _ ⟨rfl, rfl⟩
    refine ⟨stable_nil, ?_⟩
    refine dp 9 4 (iv y9_8.1) ?_
    refine draw_end kf ?_
    refine ae [(4, iv y9_8.1)] ?_
    refine at_then_normal ?_
    refine at_ret kf ?_
    refine At.conv (Γ' := (HomeXA h x1_3_h ({ dir := y6_11.2, turns := y9_8.2, c := hc.c, node := hc.node } : HomeS)) :: (ImmI x1_3_h.a9 hc.c.init) :: (ImmI x1_3_h.a9 hc.c.init) :: (ImmI x1_3_h.a9 hc.c.init) :: (Asn.own b0_0 (.cells #[iv p.kind, iv p.src, iv p.dst, iv p.id, iv p.line, iv p.ptr, iv p.state, .bool p.flag, .slice pa (List.length p.data) pcap] 32 (0, 0))) :: Γ) (fun w hw => HomeXA.close (x := x1_3_h) (t := ({ dir := y6_11.2, turns := y9_8.2, c := hc.c, node := hc.node } : HomeS)) (Sat.less (.take (.there (.there (.there .here))) (.take (.there (.there (.there .here))) (.take (.there (.there .here)) (.take .here (.take .here (.take .here (.take .here (.take .here .refl)))))))) (ImmR.dup (Sat.less (.take (.there (.there (.there .here))) (.take .here (.take .here (.take .here (.take .here (.take .here (.take .here .refl))))))) hw)))) ?_
    refine At.conv (Γ' := (HomeA h ({ dir := y6_11.2, turns := y9_8.2, c := hc.c, node := hc.node } : HomeS)) :: (ImmI x1_3_h.a9 hc.c.init) :: (ImmI x1_3_h.a9 hc.c.init) :: (ImmI x1_3_h.a9 hc.c.init) :: (Asn.own b0_0 (.cells #[iv p.kind, iv p.src, iv p.dst, iv p.id, iv p.line, iv p.ptr, iv p.state, .bool p.flag, .slice pa (List.length p.data) pcap] 32 (0, 0))) :: Γ) (fun w hw => HomeXA.shut (hw.pull .here)) ?_
    obtain rfl := someE H
    refine at_backR [iv y9_8.1] ((HomeA h ({ dir := y6_11.2, turns := y9_8.2, c := hc.c, node := hc.node } : HomeS)) :: Γ) (rs := [.tmp 4]) kf (.cons (.tmp kf) .nil) (fun w hw => (Sat.less (.take .here (.drop .here (.drop .here (.drop .here (.drop .here .refl))))) hw)) ?_
    exact ⟨rfl, rfl⟩
  ·replace H := bifF H h2
   refine at_false (t := p.flag) (x := C31 [1,1,1,0,1,0]) (y := C31 [1,1,1,0,1,1]) (o := .tmp 18) kf kf kf h2 ?_
   refine at_skip kf ?_
   refine at_then_normal ?_
   refine aq (x := C31 [1,1,1,1,0]) (y := C31 [1,1,1,1,1]) ?_
   refine aq (x := C31 [1,1,1,1,0,0]) (y := C31 [1,1,1,1,0,1]) ?_
   refine At.conv (Γ' := (HomeXA h x1_3_h hc) :: (ImmI x1_3_h.a9 hc.c.init) :: (Asn.own b0_0 (.cells #[iv p.kind, iv p.src, iv p.dst, iv p.id, iv p.line, iv p.ptr, iv p.state, .bool p.flag, .slice pa (List.length p.data) pcap] 32 (0, 0))) :: Γ) (fun w hw => HomeXA.close (x := x1_3_h) (t := hc) (Sat.less (.take (.there (.there (.there .here))) (.take (.there (.there (.there .here))) (.take (.there (.there .here)) (.take .here (.take .here (.take .here .refl)))))) (ImmR.dup (Sat.less (.take (.there (.there (.there .here))) (.take .here (.take .here (.take .here (.take .here .refl))))) hw)))) ?_
   refine at_region_draw (id := 6) kf kf ?_
   refine dp 0 21 (.pointer (some ⟨h, 0, none⟩)) ?_
   refine dp 1 22 (.pointer (some ⟨h, 0, none⟩)) ?_
   refine dp 2 23 (.pointer (some ⟨h, 0, none⟩)) ?_
   refine HomeXA.open_draw .here ?_
   refine dl 3 24 (.pointer (some ⟨x1_3_h.b0, 0, none⟩)) (load1 (off := 0) (fun _ => kf) (holds_own .here) kf) ?_
   refine dp 4 25 (.pointer (some ⟨b0_0, 4, none⟩)) ?_
   refine dl 5 26 (iv p.line) (load1 (off := 4) (fun _ => kf) (holds_own (.there (.there (.there (.there (.there .here)))))) kf) ?_
   refine dp 6 27 (.pointer (some ⟨b0_0, 6, none⟩)) ?_
   refine dl 7 28 (iv p.state) (load1 (off := 6) (fun _ => kf) (holds_own (.there (.there (.there (.there (.there .here)))))) kf) ?_
   refine dp 8 29 (.pointer (some ⟨b0_0, 5, none⟩)) ?_
   refine dl 9 30 (iv p.ptr) (load1 (off := 5) (fun _ => kf) (holds_own (.there (.there (.there (.there (.there .here)))))) kf) ?_
   refine dp 10 31 (.slice none 0 0) ?_
   obtain ⟨y6_11, hy6_11, H⟩ := bindE H
   refine d_call 11 32 [3, 5, 7, 9, 10, 2, 4, 6, 8, 1, 0] [] [] 51 #[.pointer (some ⟨x1_3_h.b0, 0, none⟩), iv p.line, iv p.state, iv p.ptr, .slice none 0 0] kf kf kf (fun _ => kf) (Tr.conv (Γ' := (DirA x1_3_h.b0 hc.dir) :: (Asn.own h (.cells #[.pointer (some ⟨x1_3_h.b0, 0, none⟩), .pointer (some ⟨x1_3_h.b1, 0, none⟩), iv hc.c.nodes, iv hc.c.lines, iv hc.c.words, iv hc.c.sets, iv hc.c.ways, iv hc.c.out, iv hc.c.inn, .slice x1_3_h.a9 (List.length hc.c.init) x1_3_h.c9, iv hc.node] x1_3_h.T (0, 0))) :: (TurnsA x1_3_h.b1 hc.turns) :: (ImmI x1_3_h.a9 hc.c.init) :: (ImmI x1_3_h.a9 hc.c.init) :: (Asn.own b0_0 (.cells #[iv p.kind, iv p.src, iv p.dst, iv p.id, iv p.line, iv p.ptr, iv p.state, .bool p.flag, .slice pa (List.length p.data) pcap] 32 (0, 0))) :: Γ) (fun w hw => (Sat.less (.take (.there .here) (.take .here (.take .here (.take .here (.take .here (.take .here .refl)))))) hw)) (MSetF_tr x1_3_h.b0 hc.dir p.line p.state p.ptr none 0 ([] : List Int) Reads.nil y6_11 hy6_11)) ?_
   rintro _ _ ⟨rfl, rfl⟩
   refine ⟨stable_nil, ?_⟩
   refine dp 12 6 (iv y6_11.1) ?_
   refine draw_end kf ?_
   refine ae [(0, .pointer (some ⟨h, 0, none⟩)), (3, .pointer (some ⟨b0_0, 0, none⟩)), (6, iv y6_11.1)] ?_
   refine at_then_normal ?_
   refine aq (x := C31 [1,1,1,1,0,1,0]) (y := C31 [1,1,1,1,0,1,1]) ?_
   refine ar (id := 7) 2 ?_
   refine sp 33 (iv y6_11.1) ?_
   refine sp 34 (.bool (!(decide (y6_11.1 = (0 : Int))))) ?_
   refine ops_end ?_
   refine ae [(0, .pointer (some ⟨h, 0, none⟩)), (3, .pointer (some ⟨b0_0, 0, none⟩)), (6, iv y6_11.1), (34, .bool (!(decide (y6_11.1 = (0 : Int)))))] ?_
   refine at_then_normal ?_
   rcases Bool.eq_false_or_eq_true (!(decide (y6_11.1 = (0 : Int)))) with h4 | h4
   ·replace H := bifT H h4
    refine at_true (t := !(decide (y6_11.1 = (0 : Int)))) (x := C31 [1,1,1,1,0,1,1,0]) (y := C31 [1,1,1,1,0,1,1,1]) (o := .tmp 34) kf kf kf h4 ?_
    refine aq (x := C31 [1,1,1,1,0,1,1,0,0]) (y := C31 [1,1,1,1,0,1,1,0,1]) ?_
    refine ar (id := 8) 2 ?_
    refine sp 35 (iv y6_11.1) ?_
    refine sp 4 (iv y6_11.1) ?_
    refine ops_end ?_
    refine ae [(4, iv y6_11.1)] ?_
    refine at_then_normal ?_
    refine at_ret kf ?_
    refine at_then_ret ?_
    refine At.conv (Γ' := (HomeXA h x1_3_h ({ dir := y6_11.2, turns := hc.turns, c := hc.c, node := hc.node } : HomeS)) :: (ImmI x1_3_h.a9 hc.c.init) :: (ImmI x1_3_h.a9 hc.c.init) :: (Asn.own b0_0 (.cells #[iv p.kind, iv p.src, iv p.dst, iv p.id, iv p.line, iv p.ptr, iv p.state, .bool p.flag, .slice pa (List.length p.data) pcap] 32 (0, 0))) :: Γ) (fun w hw => HomeXA.close (x := x1_3_h) (t := ({ dir := y6_11.2, turns := hc.turns, c := hc.c, node := hc.node } : HomeS)) (Sat.less (.take (.there (.there (.there .here))) (.take (.there (.there .here)) (.take (.there (.there .here)) (.take .here (.take .here (.take .here (.take .here .refl))))))) (ImmR.dup (Sat.less (.take (.there (.there (.there .here))) (.take .here (.take .here (.take .here (.take .here (.take .here .refl)))))) hw)))) ?_
    refine At.conv (Γ' := (HomeA h ({ dir := y6_11.2, turns := hc.turns, c := hc.c, node := hc.node } : HomeS)) :: (ImmI x1_3_h.a9 hc.c.init) :: (ImmI x1_3_h.a9 hc.c.init) :: (Asn.own b0_0 (.cells #[iv p.kind, iv p.src, iv p.dst, iv p.id, iv p.line, iv p.ptr, iv p.state, .bool p.flag, .slice pa (List.length p.data) pcap] 32 (0, 0))) :: Γ) (fun w hw => HomeXA.shut (hw.pull .here)) ?_
    obtain rfl := someE H
    refine at_backR [iv y6_11.1] ((HomeA h ({ dir := y6_11.2, turns := hc.turns, c := hc.c, node := hc.node } : HomeS)) :: Γ) (rs := [.tmp 4]) kf (.cons (.tmp kf) .nil) (fun w hw => (Sat.less (.take .here (.drop .here (.drop .here (.drop .here .refl)))) hw)) ?_
    exact ⟨rfl, rfl⟩
   ·replace H := bifF H h4
    refine at_false (t := !(decide (y6_11.1 = (0 : Int)))) (x := C31 [1,1,1,1,0,1,1,0]) (y := C31 [1,1,1,1,0,1,1,1]) (o := .tmp 34) kf kf kf h4 ?_
    refine at_skip kf ?_
    refine at_then_normal ?_
    refine aq (x := C31 [1,1,1,1,1,0]) (y := C31 [1,1,1,1,1,1]) ?_
    refine At.conv (Γ' := (HomeXA h x1_3_h ({ dir := y6_11.2, turns := hc.turns, c := hc.c, node := hc.node } : HomeS)) :: (ImmI x1_3_h.a9 hc.c.init) :: (ImmI x1_3_h.a9 hc.c.init) :: (Asn.own b0_0 (.cells #[iv p.kind, iv p.src, iv p.dst, iv p.id, iv p.line, iv p.ptr, iv p.state, .bool p.flag, .slice pa (List.length p.data) pcap] 32 (0, 0))) :: Γ) (fun w hw => HomeXA.close (x := x1_3_h) (t := ({ dir := y6_11.2, turns := hc.turns, c := hc.c, node := hc.node } : HomeS)) (Sat.less (.take (.there (.there (.there .here))) (.take (.there (.there .here)) (.take (.there (.there .here)) (.take .here (.take .here (.take .here (.take .here .refl))))))) (ImmR.dup (Sat.less (.take (.there (.there (.there .here))) (.take .here (.take .here (.take .here (.take .here (.take .here .refl)))))) hw)))) ?_
    refine at_region_draw (id := 9) kf kf ?_
    refine dp 0 36 (.pointer (some ⟨h, 0, none⟩)) ?_
    refine dp 1 37 (.pointer (some ⟨h, 0, none⟩)) ?_
    refine dp 2 38 (.pointer (some ⟨h, 1, none⟩)) ?_
    refine HomeXA.open_draw .here ?_
    refine Draw.conv (Γ' := (Asn.own h (.cells #[.pointer (some ⟨x1_3_h.b0, 0, none⟩), .pointer (some ⟨x1_3_h.b1, 0, none⟩), iv hc.c.nodes, iv hc.c.lines, iv hc.c.words, iv hc.c.sets, iv hc.c.ways, iv hc.c.out, iv hc.c.inn, .slice x1_3_h.a9 (List.length hc.c.init) x1_3_h.c9, iv hc.node] x1_3_h.T (0, 0))) :: (DirA x1_3_h.b0 y6_11.2) :: (TurnsA x1_3_h.b1 hc.turns) :: (ImmI x1_3_h.a9 hc.c.init) :: (ImmI x1_3_h.a9 hc.c.init) :: (ImmI x1_3_h.a9 hc.c.init) :: (Asn.own b0_0 (.cells #[iv p.kind, iv p.src, iv p.dst, iv p.id, iv p.line, iv p.ptr, iv p.state, .bool p.flag, .slice pa (List.length p.data) pcap] 32 (0, 0))) :: Γ) (fun w hw => hw) (fun w hw => hw) ?_
    refine dl 3 39 (.pointer (some ⟨x1_3_h.b1, 0, none⟩)) (load1 (off := 1) (fun _ => kf) (holds_own .here) kf) ?_
    refine dp 4 40 (.pointer (some ⟨b0_0, 4, none⟩)) ?_
    refine dl 5 41 (iv p.line) (load1 (off := 4) (fun _ => kf) (holds_own (.there (.there (.there (.there (.there (.there .here))))))) kf) ?_
    refine dp 6 42 (.pointer (some ⟨b0_0, 1, none⟩)) ?_
    refine dl 7 43 (iv p.src) (load1 (off := 1) (fun _ => kf) (holds_own (.there (.there (.there (.there (.there (.there .here))))))) kf) ?_
    obtain ⟨y9_8, hy9_8, H⟩ := bindE H
    refine d_call 8 44 [3, 5, 7, 2, 4, 6, 1, 0] [] [] 52 #[.pointer (some ⟨x1_3_h.b1, 0, none⟩), iv p.line, iv p.src] kf kf kf (fun _ => kf) (Tr.conv (Γ' := (TurnsA x1_3_h.b1 hc.turns) :: (Asn.own h (.cells #[.pointer (some ⟨x1_3_h.b0, 0, none⟩), .pointer (some ⟨x1_3_h.b1, 0, none⟩), iv hc.c.nodes, iv hc.c.lines, iv hc.c.words, iv hc.c.sets, iv hc.c.ways, iv hc.c.out, iv hc.c.inn, .slice x1_3_h.a9 (List.length hc.c.init) x1_3_h.c9, iv hc.node] x1_3_h.T (0, 0))) :: (DirA x1_3_h.b0 y6_11.2) :: (ImmI x1_3_h.a9 hc.c.init) :: (ImmI x1_3_h.a9 hc.c.init) :: (ImmI x1_3_h.a9 hc.c.init) :: (Asn.own b0_0 (.cells #[iv p.kind, iv p.src, iv p.dst, iv p.id, iv p.line, iv p.ptr, iv p.state, .bool p.flag, .slice pa (List.length p.data) pcap] 32 (0, 0))) :: Γ) (fun w hw => (Sat.less (.take (.there (.there .here)) (.take .here (.take .here (.take .here (.take .here (.take .here (.take .here .refl))))))) hw)) (TReleaseF_tr x1_3_h.b1 hc.turns p.line p.src y9_8 hy9_8)) ?_
    rintro _ _ ⟨rfl, rfl⟩
    refine ⟨stable_nil, ?_⟩
    refine dp 9 4 (iv y9_8.1) ?_
    refine draw_end kf ?_
    refine ae [(4, iv y9_8.1)] ?_
    refine at_then_normal ?_
    refine at_ret kf ?_
    refine At.conv (Γ' := (HomeXA h x1_3_h ({ dir := y6_11.2, turns := y9_8.2, c := hc.c, node := hc.node } : HomeS)) :: (ImmI x1_3_h.a9 hc.c.init) :: (ImmI x1_3_h.a9 hc.c.init) :: (ImmI x1_3_h.a9 hc.c.init) :: (Asn.own b0_0 (.cells #[iv p.kind, iv p.src, iv p.dst, iv p.id, iv p.line, iv p.ptr, iv p.state, .bool p.flag, .slice pa (List.length p.data) pcap] 32 (0, 0))) :: Γ) (fun w hw => HomeXA.close (x := x1_3_h) (t := ({ dir := y6_11.2, turns := y9_8.2, c := hc.c, node := hc.node } : HomeS)) (Sat.less (.take (.there (.there (.there .here))) (.take (.there (.there (.there .here))) (.take (.there (.there .here)) (.take .here (.take .here (.take .here (.take .here (.take .here .refl)))))))) (ImmR.dup (Sat.less (.take (.there (.there (.there .here))) (.take .here (.take .here (.take .here (.take .here (.take .here (.take .here .refl))))))) hw)))) ?_
    refine At.conv (Γ' := (HomeA h ({ dir := y6_11.2, turns := y9_8.2, c := hc.c, node := hc.node } : HomeS)) :: (ImmI x1_3_h.a9 hc.c.init) :: (ImmI x1_3_h.a9 hc.c.init) :: (ImmI x1_3_h.a9 hc.c.init) :: (Asn.own b0_0 (.cells #[iv p.kind, iv p.src, iv p.dst, iv p.id, iv p.line, iv p.ptr, iv p.state, .bool p.flag, .slice pa (List.length p.data) pcap] 32 (0, 0))) :: Γ) (fun w hw => HomeXA.shut (hw.pull .here)) ?_
    obtain rfl := someE H
    refine at_backR [iv y9_8.1] ((HomeA h ({ dir := y6_11.2, turns := y9_8.2, c := hc.c, node := hc.node } : HomeS)) :: Γ) (rs := [.tmp 4]) kf (.cons (.tmp kf) .nil) (fun w hw => (Sat.less (.take .here (.drop .here (.drop .here (.drop .here (.drop .here .refl))))) hw)) ?_
    exact ⟨rfl, rfl⟩
def hhandleS_j2 (hc : HomeS) (p : PktS) (e2_65 : Bool) : Option (PktS × Bool × Int × HomeS) :=
 (bif e2_65 then some ((⟨0, 0, 0, 0, 0, 0, 0, false, ([] : List Int)⟩ : PktS), false, (3 : Int), hc) else (bif decide (p.kind = (1 : Int)) then (taskS hc.turns p.line p.src p.id).bind fun y7_10 => (bif !y7_10.1 then some ((⟨0, 0, 0, 0, 0, 0, 0, false, ([] : List Int)⟩ : PktS), false, (0 : Int), ({ dir := hc.dir, turns := y7_10.2, c := hc.c, node := hc.node } : HomeS)) else (hgrantedS ({ dir := hc.dir, turns := y7_10.2, c := hc.c, node := hc.node } : HomeS) p.line p.src p.id).bind fun y9_7 => some (y9_7, true, (0 : Int), ({ dir := hc.dir, turns := y7_10.2, c := hc.c, node := hc.node } : HomeS))) else (hunlockS hc p).bind fun y10_2 => (bif !(decide (y10_2.1 = (0 : Int))) then some ((⟨0, 0, 0, 0, 0, 0, 0, false, ([] : List Int)⟩ : PktS), false, y10_2.1, y10_2.2) else some ((⟨8, y10_2.2.node, p.src, p.id, p.line, 0, 0, false, ([] : List Int)⟩ : PktS), true, (0 : Int), y10_2.2))))
def hhandleS_j1 (hc : HomeS) (p : PktS) : Option (PktS × Bool × Int × HomeS) :=
 (phomeS hc.c p.line).bind fun y4_6 => (bif !(decide (y4_6 = hc.node)) then hhandleS_j2 hc p true else hhandleS_j2 hc p (decide (hc.c.lines ≤ p.line)))
def hhandleS_j0 (hc : HomeS) (p : PktS) (e0_7 : Bool) : Option (PktS × Bool × Int × HomeS) :=
 (bif !e0_7 then some ((⟨0, 0, 0, 0, 0, 0, 0, false, ([] : List Int)⟩ : PktS), false, (1 : Int), hc) else (bif !(decide (p.kind = (1 : Int))) then (bif !(decide (p.kind = (2 : Int))) then some ((⟨0, 0, 0, 0, 0, 0, 0, false, ([] : List Int)⟩ : PktS), false, (1 : Int), hc) else hhandleS_j1 hc p) else hhandleS_j1 hc p))
def hhandleS (hc : HomeS) (p : PktS) : Option (PktS × Bool × Int × HomeS) :=
 (pcheckS p).bind fun y1_1 => (bif decide (y1_1 = (0 : Int)) then (bif decide (p.dst = hc.node) then hhandleS_j0 hc p (decide (p.src < hc.c.nodes)) else hhandleS_j0 hc p false) else hhandleS_j0 hc p false)
noncomputable def C10 (p : List Nat) : Code := codeAt (bodyOf Try.f10) p
set_option maxRecDepth 100000 in
set_option maxHeartbeats 8000000 in
theorem HHandleF_tr {W0 : World} {Γ : List Asn} (h : Nat) (hc : HomeS) (pa : Option Addr) (pcap : Nat) (p : PktS) (hrpa : Reads W0 Γ pa (ints p.data)) (y : PktS × Bool × Int × HomeS) (H : hhandleS hc p = some y) : Tr Try.prog 10 #[.pointer (some ⟨h, 0, none⟩), .agg #[iv p.kind, iv p.src, iv p.dst, iv p.id, iv p.line, iv p.ptr, iv p.state, .bool p.flag, .slice pa (List.length p.data) pcap]] W0 ((HomeA h hc) :: Γ) (fun r Δ => ∃ (a0_0 : Option Addr) (c0_0 : Nat), r = .tuple #[.agg #[iv y.1.kind, iv y.1.src, iv y.1.dst, iv y.1.id, iv y.1.line, iv y.1.ptr, iv y.1.state, .bool y.1.flag, .slice a0_0 (List.length y.1.data) c0_0], .bool y.2.1, iv y.2.2.1] ∧ Δ = (IntsA a0_0 c0_0 y.1.data) :: (HomeA h y.2.2.2) :: Γ) := by
 unfold hhandleS at H
 refine Tr.enter (fn := Try.f10) (c := C10 []) (args := [.pointer (some ⟨h, 0, none⟩), .agg #[iv p.kind, iv p.src, iv p.dst, iv p.id, iv p.line, iv p.ptr, iv p.state, .bool p.flag, .slice pa (List.length p.data) pcap]]) 109 Try.func10 kf kf ?_
 refine ae [(0, .pointer (some ⟨h, 0, none⟩)), (1, .agg #[iv p.kind, iv p.src, iv p.dst, iv p.id, iv p.line, iv p.ptr, iv p.state, .bool p.flag, .slice pa (List.length p.data) pcap])] ?_
 refine aq (x := C10 [0]) (y := C10 [1]) ?_
 refine ar (id := 0) 4 ?_
 refine s_step 3 kf kf (st_new (T := 32) (cells := #[iv p.kind, iv p.src, iv p.dst, iv p.id, iv p.line, iv p.ptr, iv p.state, .bool p.flag, .slice pa (List.length p.data) pcap]) (fun a => .pointer (some a)) (fun _ => kf)) ?_
 rintro _ _ ⟨b0_0, rfl, rfl⟩
 refine s_step 4 kf kf (st_new (T := 32) (cells := #[iv (0), iv (0), iv (0), iv (0), iv (0), iv (0), iv (0), .bool false, .slice none 0 0]) (fun a => .pointer (some a)) (fun _ => kf)) ?_
 rintro _ _ ⟨b0_1, rfl, rfl⟩
 refine sp 5 (.bool false) ?_
 refine sp 6 (iv (0)) ?_
 refine ops_end ?_
 refine ae [(0, .pointer (some ⟨h, 0, none⟩)), (3, .pointer (some ⟨b0_0, 0, none⟩)), (4, .pointer (some ⟨b0_1, 0, none⟩))] ?_
 refine at_then_normal ?_
 refine at_seq_join (x := C10 [1,0]) (y := C10 [1,1]) (fun ff ΔΔ => ∃ (e0_7 : Bool), hhandleS_j0 hc p e0_7 = some y ∧ ff = [(0, .pointer (some ⟨h, 0, none⟩)), (3, .pointer (some ⟨b0_0, 0, none⟩)), (4, .pointer (some ⟨b0_1, 0, none⟩)), (7, .bool e0_7)] ∧ (Asn.own b0_1 (.cells #[iv (0), iv (0), iv (0), iv (0), iv (0), iv (0), iv (0), .bool false, .slice none 0 0] 32 (0, 0))) :: (Asn.own b0_0 (.cells #[iv p.kind, iv p.src, iv p.dst, iv p.id, iv p.line, iv p.ptr, iv p.state, .bool p.flag, .slice pa (List.length p.data) pcap] 32 (0, 0))) :: (HomeA h hc) :: Γ = ΔΔ) kf ?_ ?_
 ·rintro _ _ ⟨e0_7, H, rfl, rfl⟩
  rw [hhandleS_j0] at H
  refine at_seq_join (x := C10 [1,1,0]) (y := C10 [1,1,1]) (fun ff ΔΔ => hhandleS_j1 hc p = some y ∧ ff = [(0, .pointer (some ⟨h, 0, none⟩)), (3, .pointer (some ⟨b0_0, 0, none⟩)), (4, .pointer (some ⟨b0_1, 0, none⟩))] ∧ (Asn.own b0_1 (.cells #[iv (0), iv (0), iv (0), iv (0), iv (0), iv (0), iv (0), .bool false, .slice none 0 0] 32 (0, 0))) :: (Asn.own b0_0 (.cells #[iv p.kind, iv p.src, iv p.dst, iv p.id, iv p.line, iv p.ptr, iv p.state, .bool p.flag, .slice pa (List.length p.data) pcap] 32 (0, 0))) :: (HomeA h hc) :: Γ = ΔΔ) kf ?_ ?_
  ·rintro _ _ ⟨H, rfl, rfl⟩
   rw [hhandleS_j1] at H
   refine aq (x := C10 [1,1,1,0]) (y := C10 [1,1,1,1]) ?_
   refine at_seq_join (x := C10 [1,1,1,0,0]) (y := C10 [1,1,1,0,1]) (fun ff ΔΔ => ∃ (e2_65 : Bool), hhandleS_j2 hc p e2_65 = some y ∧ ff = [(0, .pointer (some ⟨h, 0, none⟩)), (3, .pointer (some ⟨b0_0, 0, none⟩)), (4, .pointer (some ⟨b0_1, 0, none⟩)), (65, .bool e2_65)] ∧ (Asn.own b0_1 (.cells #[iv (0), iv (0), iv (0), iv (0), iv (0), iv (0), iv (0), .bool false, .slice none 0 0] 32 (0, 0))) :: (Asn.own b0_0 (.cells #[iv p.kind, iv p.src, iv p.dst, iv p.id, iv p.line, iv p.ptr, iv p.state, .bool p.flag, .slice pa (List.length p.data) pcap] 32 (0, 0))) :: (HomeA h hc) :: Γ = ΔΔ) kf ?_ ?_
   ·rintro _ _ ⟨e2_65, H, rfl, rfl⟩
    rw [hhandleS_j2] at H
    rcases Bool.eq_false_or_eq_true (e2_65) with h1 | h1
    ·replace H := bifT H h1
     refine at_true (t := e2_65) (x := C10 [1,1,1,0,1,0]) (y := C10 [1,1,1,0,1,1]) (o := .tmp 65) kf kf kf h1 ?_
     refine aq (x := C10 [1,1,1,0,1,0,0]) (y := C10 [1,1,1,0,1,0,1]) ?_
     refine ar (id := 5) 4 ?_
     refine sp 66 (.agg #[iv (0), iv (0), iv (0), iv (0), iv (0), iv (0), iv (0), .bool false, .slice none 0 0]) ?_
     refine s_do kf kf (st_store (off := 0) (vs := [iv (0), iv (0), iv (0), iv (0), iv (0), iv (0), iv (0), .bool false, .slice none 0 0]) (c' := #[iv (0), iv (0), iv (0), iv (0), iv (0), iv (0), iv (0), .bool false, .slice none 0 0]) (fun _ => kf) .here kf kf kf) ?_
     rintro _ _ ⟨rfl, rfl⟩
     refine sp 5 (.bool false) ?_
     refine sp 6 (iv (3)) ?_
     refine ops_end ?_
     refine ae [(4, .pointer (some ⟨b0_1, 0, none⟩)), (5, .bool false), (6, iv (3))] ?_
     refine at_then_normal ?_
     refine at_ret kf ?_
     refine at_then_ret ?_
     obtain rfl := someE H
     refine at_backR [.agg #[iv (0), iv (0), iv (0), iv (0), iv (0), iv (0), iv (0), .bool false, .slice none 0 0], .bool false, iv (3)] ((IntsA none 0 ([] : List Int)) :: (HomeA h hc) :: Γ) (rs := [.cell 4 32, .tmp 5, .tmp 6]) kf (.cons (.cell kf (retN (off := 0) (vs := [iv (0), iv (0), iv (0), iv (0), iv (0), iv (0), iv (0), .bool false, .slice none 0 0]) 9 (fun _ => kf) (holds_own .here) rfl (by exact ⟨rfl, rfl, rfl, rfl, rfl, rfl, rfl, rfl, rfl, trivial⟩))) (.cons (.tmp kf) (.cons (.tmp kf) .nil))) (fun w hw => (Sat.less (.take .here (.take (.there (.there .here)) (.drop .here (.drop .here .refl)))) (RowsA.none_mk (k := 1) (a := none) hw))) ?_
     exact ⟨none, 0, rfl, rfl⟩
    ·replace H := bifF H h1
     refine at_false (t := e2_65) (x := C10 [1,1,1,0,1,0]) (y := C10 [1,1,1,0,1,1]) (o := .tmp 65) kf kf kf h1 ?_
     refine at_skip kf ?_
     refine at_then_normal ?_
     refine aq (x := C10 [1,1,1,1,0]) (y := C10 [1,1,1,1,1]) ?_
     refine aq (x := C10 [1,1,1,1,0,0]) (y := C10 [1,1,1,1,0,1]) ?_
     refine ar (id := 6) 3 ?_
     refine sp 67 (.pointer (some ⟨b0_0, 0, none⟩)) ?_
     refine sl 68 (iv p.kind) (load1 (off := 0) (fun _ => kf) (holds_own (.there .here)) kf) ?_
     refine sp 69 (.bool (decide (p.kind = (1 : Int)))) ?_
     refine ops_end ?_
     refine ae [(0, .pointer (some ⟨h, 0, none⟩)), (3, .pointer (some ⟨b0_0, 0, none⟩)), (4, .pointer (some ⟨b0_1, 0, none⟩)), (69, .bool (decide (p.kind = (1 : Int))))] ?_
     refine at_then_normal ?_
     rcases Bool.eq_false_or_eq_true (decide (p.kind = (1 : Int))) with h2 | h2
     ·replace H := bifT H h2
      refine at_true (t := decide (p.kind = (1 : Int))) (x := C10 [1,1,1,1,0,1,0]) (y := C10 [1,1,1,1,0,1,1]) (o := .tmp 69) kf kf kf h2 ?_
      refine aq (x := C10 [1,1,1,1,0,1,0,0]) (y := C10 [1,1,1,1,0,1,0,1]) ?_
      refine aq (x := C10 [1,1,1,1,0,1,0,0,0]) (y := C10 [1,1,1,1,0,1,0,0,1]) ?_
      refine at_region_draw (id := 7) kf kf ?_
      refine dp 0 70 (.pointer (some ⟨h, 0, none⟩)) ?_
      refine dp 1 71 (.pointer (some ⟨h, 0, none⟩)) ?_
      refine dp 2 72 (.pointer (some ⟨h, 1, none⟩)) ?_
      refine HomeA.tox_draw (.there (.there .here)) ?_
      intro x7_3_h
      refine HomeXA.open_draw .here ?_
      refine dl 3 73 (.pointer (some ⟨x7_3_h.b1, 0, none⟩)) (load1 (off := 1) (fun _ => kf) (holds_own .here) kf) ?_
      refine dp 4 74 (.pointer (some ⟨b0_0, 4, none⟩)) ?_
      refine dl 5 75 (iv p.line) (load1 (off := 4) (fun _ => kf) (holds_own (.there (.there (.there (.there (.there .here)))))) kf) ?_
      refine dp 6 76 (.pointer (some ⟨b0_0, 1, none⟩)) ?_
      refine dl 7 77 (iv p.src) (load1 (off := 1) (fun _ => kf) (holds_own (.there (.there (.there (.there (.there .here)))))) kf) ?_
      refine dp 8 78 (.pointer (some ⟨b0_0, 3, none⟩)) ?_
      refine dl 9 79 (iv p.id) (load1 (off := 3) (fun _ => kf) (holds_own (.there (.there (.there (.there (.there .here)))))) kf) ?_
      obtain ⟨y7_10, hy7_10, H⟩ := bindE H
      refine d_call 10 80 [3, 5, 7, 9, 2, 4, 6, 8, 1, 0] [] [] 29 #[.pointer (some ⟨x7_3_h.b1, 0, none⟩), iv p.line, iv p.src, iv p.id] kf kf kf (fun _ => kf) (Tr.conv (Γ' := (TurnsA x7_3_h.b1 hc.turns) :: (Asn.own h (.cells #[.pointer (some ⟨x7_3_h.b0, 0, none⟩), .pointer (some ⟨x7_3_h.b1, 0, none⟩), iv hc.c.nodes, iv hc.c.lines, iv hc.c.words, iv hc.c.sets, iv hc.c.ways, iv hc.c.out, iv hc.c.inn, .slice x7_3_h.a9 (List.length hc.c.init) x7_3_h.c9, iv hc.node] x7_3_h.T (0, 0))) :: (DirA x7_3_h.b0 hc.dir) :: (ImmI x7_3_h.a9 hc.c.init) :: (Asn.own b0_1 (.cells #[iv (0), iv (0), iv (0), iv (0), iv (0), iv (0), iv (0), .bool false, .slice none 0 0] 32 (0, 0))) :: (Asn.own b0_0 (.cells #[iv p.kind, iv p.src, iv p.dst, iv p.id, iv p.line, iv p.ptr, iv p.state, .bool p.flag, .slice pa (List.length p.data) pcap] 32 (0, 0))) :: Γ) (fun w hw => (Sat.less (.take (.there (.there .here)) (.take .here (.take .here (.take .here (.take .here (.take .here .refl)))))) hw)) (TAskF_tr x7_3_h.b1 hc.turns p.line p.src p.id y7_10 hy7_10)) ?_
      rintro _ _ ⟨rfl, rfl⟩
      refine ⟨stable_nil, ?_⟩
      refine dp 11 81 (.bool !y7_10.1) ?_
      refine draw_end kf ?_
      refine ae [(0, .pointer (some ⟨h, 0, none⟩)), (3, .pointer (some ⟨b0_0, 0, none⟩)), (4, .pointer (some ⟨b0_1, 0, none⟩)), (81, .bool !y7_10.1)] ?_
      refine at_then_normal ?_
      rcases Bool.eq_false_or_eq_true (!y7_10.1) with h3 | h3
      ·replace H := bifT H h3
       refine at_true (t := !y7_10.1) (x := C10 [1,1,1,1,0,1,0,0,1,0]) (y := C10 [1,1,1,1,0,1,0,0,1,1]) (o := .tmp 81) kf kf kf h3 ?_
       refine At.conv (Γ' := (HomeXA h x7_3_h ({ dir := hc.dir, turns := y7_10.2, c := hc.c, node := hc.node } : HomeS)) :: (ImmI x7_3_h.a9 hc.c.init) :: (Asn.own b0_1 (.cells #[iv (0), iv (0), iv (0), iv (0), iv (0), iv (0), iv (0), .bool false, .slice none 0 0] 32 (0, 0))) :: (Asn.own b0_0 (.cells #[iv p.kind, iv p.src, iv p.dst, iv p.id, iv p.line, iv p.ptr, iv p.state, .bool p.flag, .slice pa (List.length p.data) pcap] 32 (0, 0))) :: Γ) (fun w hw => HomeXA.close (x := x7_3_h) (t := ({ dir := hc.dir, turns := y7_10.2, c := hc.c, node := hc.node } : HomeS)) (Sat.less (.take (.there (.there (.there .here))) (.take (.there (.there (.there .here))) (.take (.there (.there .here)) (.take .here (.take .here (.take .here (.take .here .refl))))))) (ImmR.dup (Sat.less (.take (.there (.there (.there .here))) (.take .here (.take .here (.take .here (.take .here (.take .here .refl)))))) hw)))) ?_
       refine At.conv (Γ' := (HomeA h ({ dir := hc.dir, turns := y7_10.2, c := hc.c, node := hc.node } : HomeS)) :: (ImmI x7_3_h.a9 hc.c.init) :: (Asn.own b0_1 (.cells #[iv (0), iv (0), iv (0), iv (0), iv (0), iv (0), iv (0), .bool false, .slice none 0 0] 32 (0, 0))) :: (Asn.own b0_0 (.cells #[iv p.kind, iv p.src, iv p.dst, iv p.id, iv p.line, iv p.ptr, iv p.state, .bool p.flag, .slice pa (List.length p.data) pcap] 32 (0, 0))) :: Γ) (fun w hw => HomeXA.shut (hw.pull .here)) ?_
       refine aq (x := C10 [1,1,1,1,0,1,0,0,1,0,0]) (y := C10 [1,1,1,1,0,1,0,0,1,0,1]) ?_
       refine ar (id := 8) 4 ?_
       refine sp 82 (.agg #[iv (0), iv (0), iv (0), iv (0), iv (0), iv (0), iv (0), .bool false, .slice none 0 0]) ?_
       refine s_do kf kf (st_store (off := 0) (vs := [iv (0), iv (0), iv (0), iv (0), iv (0), iv (0), iv (0), .bool false, .slice none 0 0]) (c' := #[iv (0), iv (0), iv (0), iv (0), iv (0), iv (0), iv (0), .bool false, .slice none 0 0]) (fun _ => kf) (.there (.there .here)) kf kf kf) ?_
       rintro _ _ ⟨rfl, rfl⟩
       refine sp 5 (.bool false) ?_
       refine sp 6 (iv (0)) ?_
       refine ops_end ?_
       refine ae [(4, .pointer (some ⟨b0_1, 0, none⟩)), (5, .bool false), (6, iv (0))] ?_
       refine at_then_normal ?_
       refine at_ret kf ?_
       refine at_then_ret ?_
       refine at_then_ret ?_
       obtain rfl := someE H
       refine at_backR [.agg #[iv (0), iv (0), iv (0), iv (0), iv (0), iv (0), iv (0), .bool false, .slice none 0 0], .bool false, iv (0)] ((IntsA none 0 ([] : List Int)) :: (HomeA h ({ dir := hc.dir, turns := y7_10.2, c := hc.c, node := hc.node } : HomeS)) :: Γ) (rs := [.cell 4 32, .tmp 5, .tmp 6]) kf (.cons (.cell kf (retN (off := 0) (vs := [iv (0), iv (0), iv (0), iv (0), iv (0), iv (0), iv (0), .bool false, .slice none 0 0]) 9 (fun _ => kf) (holds_own .here) rfl (by exact ⟨rfl, rfl, rfl, rfl, rfl, rfl, rfl, rfl, rfl, trivial⟩))) (.cons (.tmp kf) (.cons (.tmp kf) .nil))) (fun w hw => (Sat.less (.take .here (.take (.there .here) (.drop .here (.drop .here (.drop .here .refl))))) (RowsA.none_mk (k := 1) (a := none) hw))) ?_
       exact ⟨none, 0, rfl, rfl⟩
      ·replace H := bifF H h3
       refine at_false (t := !y7_10.1) (x := C10 [1,1,1,1,0,1,0,0,1,0]) (y := C10 [1,1,1,1,0,1,0,0,1,1]) (o := .tmp 81) kf kf kf h3 ?_
       refine at_skip kf ?_
       refine at_then_normal ?_
       refine At.conv (Γ' := (HomeXA h x7_3_h ({ dir := hc.dir, turns := y7_10.2, c := hc.c, node := hc.node } : HomeS)) :: (ImmI x7_3_h.a9 hc.c.init) :: (Asn.own b0_1 (.cells #[iv (0), iv (0), iv (0), iv (0), iv (0), iv (0), iv (0), .bool false, .slice none 0 0] 32 (0, 0))) :: (Asn.own b0_0 (.cells #[iv p.kind, iv p.src, iv p.dst, iv p.id, iv p.line, iv p.ptr, iv p.state, .bool p.flag, .slice pa (List.length p.data) pcap] 32 (0, 0))) :: Γ) (fun w hw => HomeXA.close (x := x7_3_h) (t := ({ dir := hc.dir, turns := y7_10.2, c := hc.c, node := hc.node } : HomeS)) (Sat.less (.take (.there (.there (.there .here))) (.take (.there (.there (.there .here))) (.take (.there (.there .here)) (.take .here (.take .here (.take .here (.take .here .refl))))))) (ImmR.dup (Sat.less (.take (.there (.there (.there .here))) (.take .here (.take .here (.take .here (.take .here (.take .here .refl)))))) hw)))) ?_
       refine At.conv (Γ' := (HomeA h ({ dir := hc.dir, turns := y7_10.2, c := hc.c, node := hc.node } : HomeS)) :: (ImmI x7_3_h.a9 hc.c.init) :: (Asn.own b0_1 (.cells #[iv (0), iv (0), iv (0), iv (0), iv (0), iv (0), iv (0), .bool false, .slice none 0 0] 32 (0, 0))) :: (Asn.own b0_0 (.cells #[iv p.kind, iv p.src, iv p.dst, iv p.id, iv p.line, iv p.ptr, iv p.state, .bool p.flag, .slice pa (List.length p.data) pcap] 32 (0, 0))) :: Γ) (fun w hw => HomeXA.shut (hw.pull .here)) ?_
       refine aq (x := C10 [1,1,1,1,0,1,0,1,0]) (y := C10 [1,1,1,1,0,1,0,1,1]) ?_
       refine ar (id := 9) 11 ?_
       refine sp 83 (.pointer (some ⟨h, 0, none⟩)) ?_
       refine sp 84 (.pointer (some ⟨b0_0, 4, none⟩)) ?_
       refine sl 85 (iv p.line) (load1 (off := 4) (fun _ => kf) (holds_own (.there (.there (.there .here)))) kf) ?_
       refine sp 86 (.pointer (some ⟨b0_0, 1, none⟩)) ?_
       refine sl 87 (iv p.src) (load1 (off := 1) (fun _ => kf) (holds_own (.there (.there (.there .here)))) kf) ?_
       refine sp 88 (.pointer (some ⟨b0_0, 3, none⟩)) ?_
       refine sl 89 (iv p.id) (load1 (off := 3) (fun _ => kf) (holds_own (.there (.there (.there .here)))) kf) ?_
       obtain ⟨y9_7, hy9_7, H⟩ := bindE H
       refine s_call 90 30 #[.pointer (some ⟨h, 0, none⟩), iv p.line, iv p.src, iv p.id] kf kf (fun _ => kf) (HGrantedF_tr h ({ dir := hc.dir, turns := y7_10.2, c := hc.c, node := hc.node } : HomeS) p.line p.src p.id y9_7 hy9_7) ?_
       rintro _ _ ⟨a9_7_00, c9_7_00, rfl, rfl⟩
       refine s_do kf kf (st_store (off := 0) (vs := [iv y9_7.kind, iv y9_7.src, iv y9_7.dst, iv y9_7.id, iv y9_7.line, iv y9_7.ptr, iv y9_7.state, .bool y9_7.flag, .slice a9_7_00 (List.length y9_7.data) c9_7_00]) (c' := #[iv y9_7.kind, iv y9_7.src, iv y9_7.dst, iv y9_7.id, iv y9_7.line, iv y9_7.ptr, iv y9_7.state, .bool y9_7.flag, .slice a9_7_00 (List.length y9_7.data) c9_7_00]) (fun _ => kf) (.there (.there (.there .here))) kf kf kf) ?_
       rintro _ _ ⟨rfl, rfl⟩
       refine sp 5 (.bool true) ?_
       refine sp 6 (iv (0)) ?_
       refine ops_end ?_
       refine ae [(4, .pointer (some ⟨b0_1, 0, none⟩)), (5, .bool true), (6, iv (0))] ?_
       refine at_then_normal ?_
       refine at_ret kf ?_
       refine at_then_ret ?_
       obtain rfl := someE H
       refine at_backR [.agg #[iv y9_7.kind, iv y9_7.src, iv y9_7.dst, iv y9_7.id, iv y9_7.line, iv y9_7.ptr, iv y9_7.state, .bool y9_7.flag, .slice a9_7_00 (List.length y9_7.data) c9_7_00], .bool true, iv (0)] ((IntsA a9_7_00 c9_7_00 y9_7.data) :: (HomeA h ({ dir := hc.dir, turns := y7_10.2, c := hc.c, node := hc.node } : HomeS)) :: Γ) (rs := [.cell 4 32, .tmp 5, .tmp 6]) kf (.cons (.cell kf (retN (off := 0) (vs := [iv y9_7.kind, iv y9_7.src, iv y9_7.dst, iv y9_7.id, iv y9_7.line, iv y9_7.ptr, iv y9_7.state, .bool y9_7.flag, .slice a9_7_00 (List.length y9_7.data) c9_7_00]) 9 (fun _ => kf) (holds_own .here) rfl (by exact ⟨rfl, rfl, rfl, rfl, rfl, rfl, rfl, rfl, rfl, trivial⟩))) (.cons (.tmp kf) (.cons (.tmp kf) .nil))) (fun w hw => (Sat.less (.take (.there .here) (.take (.there .here) (.drop .here (.drop .here (.drop .here .refl))))) hw)) ?_
       exact ⟨a9_7_00, c9_7_00, rfl, rfl⟩
     ·replace H := bifF H h2
      refine at_false (t := decide (p.kind = (1 : Int))) (x := C10 [1,1,1,1,0,1,0]) (y := C10 [1,1,1,1,0,1,1]) (o := .tmp 69) kf kf kf h2 ?_
      refine at_skip kf ?_
      refine at_then_normal ?_
      refine aq (x := C10 [1,1,1,1,1,0]) (y := C10 [1,1,1,1,1,1]) ?_
      refine aq (x := C10 [1,1,1,1,1,0,0]) (y := C10 [1,1,1,1,1,0,1]) ?_
      refine ar (id := 10) 4 ?_
      refine sp 91 (.pointer (some ⟨h, 0, none⟩)) ?_
      refine sl 92 (.agg #[iv p.kind, iv p.src, iv p.dst, iv p.id, iv p.line, iv p.ptr, iv p.state, .bool p.flag, .slice pa (List.length p.data) pcap]) (loadN (off := 0) (vs := [iv p.kind, iv p.src, iv p.dst, iv p.id, iv p.line, iv p.ptr, iv p.state, .bool p.flag, .slice pa (List.length p.data) pcap]) 9 (fun _ => kf) (holds_own (.there .here)) rfl (by exact ⟨rfl, rfl, rfl, rfl, rfl, rfl, rfl, rfl, rfl, trivial⟩)) ?_
      obtain ⟨y10_2, hy10_2, H⟩ := bindE H
      refine s_call 93 31 #[.pointer (some ⟨h, 0, none⟩), .agg #[iv p.kind, iv p.src, iv p.dst, iv p.id, iv p.line, iv p.ptr, iv p.state, .bool p.flag, .slice pa (List.length p.data) pcap]] kf kf (fun _ => kf) (Tr.conv (Γ' := (HomeA h hc) :: (Asn.own b0_1 (.cells #[iv (0), iv (0), iv (0), iv (0), iv (0), iv (0), iv (0), .bool false, .slice none 0 0] 32 (0, 0))) :: (Asn.own b0_0 (.cells #[iv p.kind, iv p.src, iv p.dst, iv p.id, iv p.line, iv p.ptr, iv p.state, .bool p.flag, .slice pa (List.length p.data) pcap] 32 (0, 0))) :: Γ) (fun w hw => (Sat.less (.take (.there (.there .here)) (.take .here (.take .here .refl))) hw)) (HUnlockF_tr h hc pa pcap p (Reads.conv (fun w hw => hw.less (.drop .here (.drop .here .refl))) hrpa) y10_2 hy10_2)) ?_
      rintro _ _ ⟨rfl, rfl⟩
      refine sp 8 (iv y10_2.1) ?_
      refine ops_end ?_
      refine ae [(0, .pointer (some ⟨h, 0, none⟩)), (3, .pointer (some ⟨b0_0, 0, none⟩)), (4, .pointer (some ⟨b0_1, 0, none⟩)), (8, iv y10_2.1)] ?_
      refine at_then_normal ?_
      refine aq (x := C10 [1,1,1,1,1,0,1,0]) (y := C10 [1,1,1,1,1,0,1,1]) ?_
      refine ar (id := 11) 2 ?_
      refine sp 94 (iv y10_2.1) ?_
      refine sp 95 (.bool (!(decide (y10_2.1 = (0 : Int))))) ?_
      refine ops_end ?_
      refine ae [(0, .pointer (some ⟨h, 0, none⟩)), (3, .pointer (some ⟨b0_0, 0, none⟩)), (4, .pointer (some ⟨b0_1, 0, none⟩)), (8, iv y10_2.1), (95, .bool (!(decide (y10_2.1 = (0 : Int)))))] ?_
      refine at_then_normal ?_
      rcases Bool.eq_false_or_eq_true (!(decide (y10_2.1 = (0 : Int)))) with h4 | h4
      ·replace H := bifT H h4
       refine at_true (t := !(decide (y10_2.1 = (0 : Int)))) (x := C10 [1,1,1,1,1,0,1,1,0]) (y := C10 [1,1,1,1,1,0,1,1,1]) (o := .tmp 95) kf kf kf h4 ?_
       refine aq (x := C10 [1,1,1,1,1,0,1,1,0,0]) (y := C10 [1,1,1,1,1,0,1,1,0,1]) ?_
       refine ar (id := 12) 5 ?_
       refine sp 96 (.agg #[iv (0), iv (0), iv (0), iv (0), iv (0), iv (0), iv (0), .bool false, .slice none 0 0]) ?_
       refine sp 97 (iv y10_2.1) ?_
       refine s_do kf kf (st_store (off := 0) (vs := [iv (0), iv (0), iv (0), iv (0), iv (0), iv (0), iv (0), .bool false, .slice none 0 0]) (c' := #[iv (0), iv (0), iv (0), iv (0), iv (0), iv (0), iv (0), .bool false, .slice none 0 0]) (fun _ => kf) (.there .here) kf kf kf) ?_
       rintro _ _ ⟨rfl, rfl⟩
       refine sp 5 (.bool false) ?_
       refine sp 6 (iv y10_2.1) ?_
       refine ops_end ?_
       refine ae [(4, .pointer (some ⟨b0_1, 0, none⟩)), (5, .bool false), (6, iv y10_2.1)] ?_
       refine at_then_normal ?_
       refine at_ret kf ?_
       refine at_then_ret ?_
       obtain rfl := someE H
       refine at_backR [.agg #[iv (0), iv (0), iv (0), iv (0), iv (0), iv (0), iv (0), .bool false, .slice none 0 0], .bool false, iv y10_2.1] ((IntsA none 0 ([] : List Int)) :: (HomeA h y10_2.2) :: Γ) (rs := [.cell 4 32, .tmp 5, .tmp 6]) kf (.cons (.cell kf (retN (off := 0) (vs := [iv (0), iv (0), iv (0), iv (0), iv (0), iv (0), iv (0), .bool false, .slice none 0 0]) 9 (fun _ => kf) (holds_own .here) rfl (by exact ⟨rfl, rfl, rfl, rfl, rfl, rfl, rfl, rfl, rfl, trivial⟩))) (.cons (.tmp kf) (.cons (.tmp kf) .nil))) (fun w hw => (Sat.less (.take .here (.take (.there .here) (.drop .here (.drop .here .refl)))) (RowsA.none_mk (k := 1) (a := none) hw))) ?_
       exact ⟨none, 0, rfl, rfl⟩
      ·replace H := bifF H h4
       refine at_false (t := !(decide (y10_2.1 = (0 : Int)))) (x := C10 [1,1,1,1,1,0,1,1,0]) (y := C10 [1,1,1,1,1,0,1,1,1]) (o := .tmp 95) kf kf kf h4 ?_
       refine at_skip kf ?_
       refine at_then_normal ?_
       refine aq (x := C10 [1,1,1,1,1,1,0]) (y := C10 [1,1,1,1,1,1,1]) ?_
       refine at_region_draw (id := 13) kf kf ?_
       refine dp 0 98 (.pointer (some ⟨h, 0, none⟩)) ?_
       refine dp 1 99 (.pointer (some ⟨h, 0, none⟩)) ?_
       refine dp 2 100 (.pointer (some ⟨h, 10, none⟩)) ?_
       refine HomeA.tox_draw .here ?_
       intro x13_3_h
       refine HomeXA.open_draw .here ?_
       refine dl 3 101 (iv y10_2.2.node) (load1 (off := 10) (fun _ => kf) (holds_own .here) kf) ?_
       refine dp 4 102 (.pointer (some ⟨b0_0, 1, none⟩)) ?_
       refine dl 5 103 (iv p.src) (load1 (off := 1) (fun _ => kf) (holds_own (.there (.there (.there (.there (.there .here)))))) kf) ?_
       refine dp 6 104 (.pointer (some ⟨b0_0, 3, none⟩)) ?_
       refine dl 7 105 (iv p.id) (load1 (off := 3) (fun _ => kf) (holds_own (.there (.there (.there (.there (.there .here)))))) kf) ?_
       refine dp 8 106 (.pointer (some ⟨b0_0, 4, none⟩)) ?_
       refine dl 9 107 (iv p.line) (load1 (off := 4) (fun _ => kf) (holds_own (.there (.there (.there (.there (.there .here)))))) kf) ?_
       refine dp 10 108 (.agg #[iv (8), iv y10_2.2.node, iv p.src, iv p.id, iv p.line, iv (0), iv (0), .bool false, .slice none 0 0]) ?_
       refine d_do 11 [10, 0, 1, 2, 3, 4, 5, 6, 7, 8, 9] [] [] kf kf kf (st_store (off := 0) (vs := [iv (8), iv y10_2.2.node, iv p.src, iv p.id, iv p.line, iv (0), iv (0), .bool false, .slice none 0 0]) (c' := #[iv (8), iv y10_2.2.node, iv p.src, iv p.id, iv p.line, iv (0), iv (0), .bool false, .slice none 0 0]) (fun _ => kf) (.there (.there (.there (.there .here)))) kf kf kf) ?_
       rintro _ _ ⟨rfl, rfl⟩
       refine ⟨stable_nil, ?_⟩
       refine dp 12 5 (.bool true) ?_
       refine dp 13 6 (iv (0)) ?_
       refine draw_end kf ?_
       refine ae [(4, .pointer (some ⟨b0_1, 0, none⟩)), (5, .bool true), (6, iv (0))] ?_
       refine at_then_normal ?_
       refine at_ret kf ?_
       refine At.conv (Γ' := (HomeXA h x13_3_h y10_2.2) :: (ImmI x13_3_h.a9 y10_2.2.c.init) :: (Asn.own b0_1 (.cells #[iv (8), iv y10_2.2.node, iv p.src, iv p.id, iv p.line, iv (0), iv (0), .bool false, .slice none 0 0] 32 (0, 0))) :: (Asn.own b0_0 (.cells #[iv p.kind, iv p.src, iv p.dst, iv p.id, iv p.line, iv p.ptr, iv p.state, .bool p.flag, .slice pa (List.length p.data) pcap] 32 (0, 0))) :: Γ) (fun w hw => HomeXA.close (x := x13_3_h) (t := y10_2.2) (Sat.less (.take (.there (.there (.there .here))) (.take (.there (.there (.there .here))) (.take (.there (.there (.there .here))) (.take .here (.take .here (.take .here (.take .here .refl))))))) (ImmR.dup (Sat.less (.take (.there (.there (.there (.there .here)))) (.take .here (.take .here (.take .here (.take .here (.take .here .refl)))))) hw)))) ?_
       refine At.conv (Γ' := (HomeA h y10_2.2) :: (ImmI x13_3_h.a9 y10_2.2.c.init) :: (Asn.own b0_1 (.cells #[iv (8), iv y10_2.2.node, iv p.src, iv p.id, iv p.line, iv (0), iv (0), .bool false, .slice none 0 0] 32 (0, 0))) :: (Asn.own b0_0 (.cells #[iv p.kind, iv p.src, iv p.dst, iv p.id, iv p.line, iv p.ptr, iv p.state, .bool p.flag, .slice pa (List.length p.data) pcap] 32 (0, 0))) :: Γ) (fun w hw => HomeXA.shut (hw.pull .here)) ?_
       obtain rfl := someE H
       refine at_backR [.agg #[iv (8), iv y10_2.2.node, iv p.src, iv p.id, iv p.line, iv (0), iv (0), .bool false, .slice none 0 0], .bool true, iv (0)] ((IntsA none 0 ([] : List Int)) :: (HomeA h y10_2.2) :: Γ) (rs := [.cell 4 32, .tmp 5, .tmp 6]) kf (.cons (.cell kf (retN (off := 0) (vs := [iv (8), iv y10_2.2.node, iv p.src, iv p.id, iv p.line, iv (0), iv (0), .bool false, .slice none 0 0]) 9 (fun _ => kf) (holds_own (.there (.there .here))) rfl (by exact ⟨rfl, rfl, rfl, rfl, rfl, rfl, rfl, rfl, rfl, trivial⟩))) (.cons (.tmp kf) (.cons (.tmp kf) .nil))) (fun w hw => (Sat.less (.take .here (.take .here (.drop .here (.drop .here (.drop .here .refl))))) (RowsA.none_mk (k := 1) (a := none) hw))) ?_
       exact ⟨none, 0, rfl, rfl⟩
   ·refine at_region_draw (id := 4) kf kf ?_
    refine dp 0 44 (.pointer (some ⟨h, 0, none⟩)) ?_
    refine dp 1 45 (.pointer (some ⟨h, 0, none⟩)) ?_
    refine dp 2 46 (.pointer (some ⟨h, 2, none⟩)) ?_
    refine HomeA.tox_draw (.there (.there .here)) ?_
    intro x4_3_h
    refine HomeXA.open_draw .here ?_
    refine dl 3 47 (.agg #[iv hc.c.nodes, iv hc.c.lines, iv hc.c.words, iv hc.c.sets, iv hc.c.ways, iv hc.c.out, iv hc.c.inn, .slice x4_3_h.a9 (List.length hc.c.init) x4_3_h.c9]) (loadN (off := 2) (vs := [iv hc.c.nodes, iv hc.c.lines, iv hc.c.words, iv hc.c.sets, iv hc.c.ways, iv hc.c.out, iv hc.c.inn, .slice x4_3_h.a9 (List.length hc.c.init) x4_3_h.c9]) 8 (fun _ => kf) (holds_own .here) rfl (by exact ⟨rfl, rfl, rfl, rfl, rfl, rfl, rfl, rfl, trivial⟩)) ?_
    refine dp 4 48 (.pointer (some ⟨b0_0, 4, none⟩)) ?_
    refine dl 5 49 (iv p.line) (load1 (off := 4) (fun _ => kf) (holds_own (.there (.there (.there (.there (.there .here)))))) kf) ?_
    refine dp 7 51 (.pointer (some ⟨h, 0, none⟩)) ?_
    refine dp 8 52 (.pointer (some ⟨h, 0, none⟩)) ?_
    refine dp 9 53 (.pointer (some ⟨h, 10, none⟩)) ?_
    refine dl 10 54 (iv hc.node) (load1 (off := 10) (fun _ => kf) (holds_own .here) kf) ?_
    obtain ⟨y4_6, hy4_6, H⟩ := bindE H
    refine d_call 6 50 [3, 5, 2, 4, 1, 0] [9, 8, 7] [10] 28 #[.agg #[iv hc.c.nodes, iv hc.c.lines, iv hc.c.words, iv hc.c.sets, iv hc.c.ways, iv hc.c.out, iv hc.c.inn, .slice x4_3_h.a9 (List.length hc.c.init) x4_3_h.c9], iv p.line] kf kf kf (fun _ => kf) (PHomeF_tr x4_3_h.a9 x4_3_h.c9 hc.c p.line (ImmR.reads (k := 1) (.there (.there (.there .here)))) y4_6 hy4_6) ?_
    rintro _ _ ⟨rfl, rfl⟩
    refine ⟨(stable_cons 10 54 (iv hc.node) kf kf kf (load1 (off := 10) (fun _ => kf) (holds_own .here) kf) stable_nil), ?_⟩
    refine dp 11 55 (.bool (!(decide (y4_6 = hc.node)))) ?_
    rcases Bool.eq_false_or_eq_true (!(decide (y4_6 = hc.node))) with h5 | h5
    ·replace H := bifT H h5
     refine d_pure 12 56 (.bool true) kf kf kf (run_eq (v := .bool (!(decide (y4_6 = hc.node)))) (fun _ => kf) (congrArg Value.bool h5)) ?_
     refine d_off 13 57 kf kf kf ?_
     refine d_off 14 58 kf kf kf ?_
     refine d_off 15 59 kf kf kf ?_
     refine d_off 16 60 kf kf kf ?_
     refine d_off 17 61 kf kf kf ?_
     refine d_off 18 62 kf kf kf ?_
     refine d_off 19 63 kf kf kf ?_
     refine d_off 20 64 kf kf kf ?_
     refine dp 21 65 (.bool true) ?_
     refine draw_end kf ?_
     refine ae [(0, .pointer (some ⟨h, 0, none⟩)), (3, .pointer (some ⟨b0_0, 0, none⟩)), (4, .pointer (some ⟨b0_1, 0, none⟩)), (65, .bool true)] ?_
     refine at_round_normal ?_
     refine At.conv (Γ' := (HomeXA h x4_3_h hc) :: (ImmI x4_3_h.a9 hc.c.init) :: (Asn.own b0_1 (.cells #[iv (0), iv (0), iv (0), iv (0), iv (0), iv (0), iv (0), .bool false, .slice none 0 0] 32 (0, 0))) :: (Asn.own b0_0 (.cells #[iv p.kind, iv p.src, iv p.dst, iv p.id, iv p.line, iv p.ptr, iv p.state, .bool p.flag, .slice pa (List.length p.data) pcap] 32 (0, 0))) :: Γ) (fun w hw => HomeXA.close (x := x4_3_h) (t := hc) (Sat.less (.take (.there (.there .here)) (.take (.there (.there .here)) (.take (.there (.there .here)) (.take .here (.take .here (.take .here (.take .here .refl))))))) (ImmR.dup (Sat.less (.take (.there (.there (.there .here))) (.take .here (.take .here (.take .here (.take .here (.take .here .refl)))))) hw)))) ?_
     refine At.conv (Γ' := (HomeA h hc) :: (ImmI x4_3_h.a9 hc.c.init) :: (Asn.own b0_1 (.cells #[iv (0), iv (0), iv (0), iv (0), iv (0), iv (0), iv (0), .bool false, .slice none 0 0] 32 (0, 0))) :: (Asn.own b0_0 (.cells #[iv p.kind, iv p.src, iv p.dst, iv p.id, iv p.line, iv p.ptr, iv p.state, .bool p.flag, .slice pa (List.length p.data) pcap] 32 (0, 0))) :: Γ) (fun w hw => HomeXA.shut (hw.pull .here)) ?_
     exact at_join_mk [(0, .pointer (some ⟨h, 0, none⟩)), (3, .pointer (some ⟨b0_0, 0, none⟩)), (4, .pointer (some ⟨b0_1, 0, none⟩)), (65, .bool true)] ((Asn.own b0_1 (.cells #[iv (0), iv (0), iv (0), iv (0), iv (0), iv (0), iv (0), .bool false, .slice none 0 0] 32 (0, 0))) :: (Asn.own b0_0 (.cells #[iv p.kind, iv p.src, iv p.dst, iv p.id, iv p.line, iv p.ptr, iv p.state, .bool p.flag, .slice pa (List.length p.data) pcap] 32 (0, 0))) :: (HomeA h hc) :: Γ) ⟨kf, kf, kf, kf, trivial⟩ (fun w hw => (Sat.less (.take (.there (.there .here)) (.take (.there (.there .here)) (.take .here (.drop .here .refl)))) hw)) ⟨true, H, rfl, rfl⟩
    ·replace H := bifF H h5
     refine d_pure 12 56 (.bool false) kf kf kf (run_eq (v := .bool (!(decide (y4_6 = hc.node)))) (fun _ => kf) (congrArg Value.bool h5)) ?_
     refine dp 13 57 (.pointer (some ⟨b0_0, 4, none⟩)) ?_
     refine dl 14 58 (iv p.line) (load1 (off := 4) (fun _ => kf) (holds_own (.there (.there (.there (.there (.there .here)))))) kf) ?_
     refine dp 15 59 (.pointer (some ⟨h, 0, none⟩)) ?_
     refine dp 16 60 (.pointer (some ⟨h, 0, none⟩)) ?_
     refine dp 17 61 (.pointer (some ⟨h, 2, none⟩)) ?_
     refine dp 18 62 (.pointer (some ⟨h, 3, none⟩)) ?_
     refine dl 19 63 (iv hc.c.lines) (load1 (off := 3) (fun _ => kf) (holds_own .here) kf) ?_
     refine dp 20 64 (.bool (decide (hc.c.lines ≤ p.line))) ?_
     refine dp 21 65 (.bool (decide (hc.c.lines ≤ p.line))) ?_
     refine draw_end kf ?_
     refine ae [(0, .pointer (some ⟨h, 0, none⟩)), (3, .pointer (some ⟨b0_0, 0, none⟩)), (4, .pointer (some ⟨b0_1, 0, none⟩)), (65, .bool (decide (hc.c.lines ≤ p.line)))] ?_
     refine at_round_normal ?_
     refine At.conv (Γ' := (HomeXA h x4_3_h hc) :: (ImmI x4_3_h.a9 hc.c.init) :: (Asn.own b0_1 (.cells #[iv (0), iv (0), iv (0), iv (0), iv (0), iv (0), iv (0), .bool false, .slice none 0 0] 32 (0, 0))) :: (Asn.own b0_0 (.cells #[iv p.kind, iv p.src, iv p.dst, iv p.id, iv p.line, iv p.ptr, iv p.state, .bool p.flag, .slice pa (List.length p.data) pcap] 32 (0, 0))) :: Γ) (fun w hw => HomeXA.close (x := x4_3_h) (t := hc) (Sat.less (.take (.there (.there .here)) (.take (.there (.there .here)) (.take (.there (.there .here)) (.take .here (.take .here (.take .here (.take .here .refl))))))) (ImmR.dup (Sat.less (.take (.there (.there (.there .here))) (.take .here (.take .here (.take .here (.take .here (.take .here .refl)))))) hw)))) ?_
     refine At.conv (Γ' := (HomeA h hc) :: (ImmI x4_3_h.a9 hc.c.init) :: (Asn.own b0_1 (.cells #[iv (0), iv (0), iv (0), iv (0), iv (0), iv (0), iv (0), .bool false, .slice none 0 0] 32 (0, 0))) :: (Asn.own b0_0 (.cells #[iv p.kind, iv p.src, iv p.dst, iv p.id, iv p.line, iv p.ptr, iv p.state, .bool p.flag, .slice pa (List.length p.data) pcap] 32 (0, 0))) :: Γ) (fun w hw => HomeXA.shut (hw.pull .here)) ?_
     exact at_join_mk [(0, .pointer (some ⟨h, 0, none⟩)), (3, .pointer (some ⟨b0_0, 0, none⟩)), (4, .pointer (some ⟨b0_1, 0, none⟩)), (65, .bool (decide (hc.c.lines ≤ p.line)))] ((Asn.own b0_1 (.cells #[iv (0), iv (0), iv (0), iv (0), iv (0), iv (0), iv (0), .bool false, .slice none 0 0] 32 (0, 0))) :: (Asn.own b0_0 (.cells #[iv p.kind, iv p.src, iv p.dst, iv p.id, iv p.line, iv p.ptr, iv p.state, .bool p.flag, .slice pa (List.length p.data) pcap] 32 (0, 0))) :: (HomeA h hc) :: Γ) ⟨kf, kf, kf, kf, trivial⟩ (fun w hw => (Sat.less (.take (.there (.there .here)) (.take (.there (.there .here)) (.take .here (.drop .here .refl)))) hw)) ⟨decide (hc.c.lines ≤ p.line), H, rfl, rfl⟩
  ·refine aq (x := C10 [1,1,0,0]) (y := C10 [1,1,0,1]) ?_
   refine ar (id := 2) 12 ?_
   refine sp 31 (.bool e0_7) ?_
   refine sp 32 (.bool !e0_7) ?_
   rcases Bool.eq_false_or_eq_true (!e0_7) with h6 | h6
   ·replace H := bifT H h6
    refine sr 33 (.bool true) (run_eq (v := .bool (!e0_7)) (fun _ => kf) (congrArg Value.bool h6)) ?_
    refine sa 34 ?_
    refine sa 35 ?_
    refine sa 36 ?_
    refine sa 37 ?_
    refine sa 38 ?_
    refine sa 39 ?_
    refine sa 40 ?_
    refine sa 41 ?_
    refine sp 42 (.bool true) ?_
    refine ops_end ?_
    refine ae [(0, .pointer (some ⟨h, 0, none⟩)), (3, .pointer (some ⟨b0_0, 0, none⟩)), (4, .pointer (some ⟨b0_1, 0, none⟩)), (42, .bool true)] ?_
    refine at_then_normal ?_
    refine at_true (t := true) (x := C10 [1,1,0,1,0]) (y := C10 [1,1,0,1,1]) (o := .tmp 42) kf kf kf rfl ?_
    refine aq (x := C10 [1,1,0,1,0,0]) (y := C10 [1,1,0,1,0,1]) ?_
    refine ar (id := 3) 4 ?_
    refine sp 43 (.agg #[iv (0), iv (0), iv (0), iv (0), iv (0), iv (0), iv (0), .bool false, .slice none 0 0]) ?_
    refine s_do kf kf (st_store (off := 0) (vs := [iv (0), iv (0), iv (0), iv (0), iv (0), iv (0), iv (0), .bool false, .slice none 0 0]) (c' := #[iv (0), iv (0), iv (0), iv (0), iv (0), iv (0), iv (0), .bool false, .slice none 0 0]) (fun _ => kf) .here kf kf kf) ?_
    rintro _ _ ⟨rfl, rfl⟩
    refine sp 5 (.bool false) ?_
    refine sp 6 (iv (1)) ?_
    refine ops_end ?_
    refine ae [(4, .pointer (some ⟨b0_1, 0, none⟩)), (5, .bool false), (6, iv (1))] ?_
    refine at_then_normal ?_
    refine at_ret kf ?_
    refine at_then_ret ?_
    obtain rfl := someE H
    refine at_backR [.agg #[iv (0), iv (0), iv (0), iv (0), iv (0), iv (0), iv (0), .bool false, .slice none 0 0], .bool false, iv (1)] ((IntsA none 0 ([] : List Int)) :: (HomeA h hc) :: Γ) (rs := [.cell 4 32, .tmp 5, .tmp 6]) kf (.cons (.cell kf (retN (off := 0) (vs := [iv (0), iv (0), iv (0), iv (0), iv (0), iv (0), iv (0), .bool false, .slice none 0 0]) 9 (fun _ => kf) (holds_own .here) rfl (by exact ⟨rfl, rfl, rfl, rfl, rfl, rfl, rfl, rfl, rfl, trivial⟩))) (.cons (.tmp kf) (.cons (.tmp kf) .nil))) (fun w hw => (Sat.less (.take .here (.take (.there (.there .here)) (.drop .here (.drop .here .refl)))) (RowsA.none_mk (k := 1) (a := none) hw))) ?_
    exact ⟨none, 0, rfl, rfl⟩
   ·replace H := bifF H h6
    refine sr 33 (.bool false) (run_eq (v := .bool (!e0_7)) (fun _ => kf) (congrArg Value.bool h6)) ?_
    refine sp 34 (.pointer (some ⟨b0_0, 0, none⟩)) ?_
    refine sl 35 (iv p.kind) (load1 (off := 0) (fun _ => kf) (holds_own (.there .here)) kf) ?_
    refine sp 36 (.bool (!(decide (p.kind = (1 : Int))))) ?_
    rcases Bool.eq_false_or_eq_true (!(decide (p.kind = (1 : Int)))) with h7 | h7
    ·replace H := bifT H h7
     refine sr 37 (.bool true) (run_eq (v := .bool (!(decide (p.kind = (1 : Int))))) (fun _ => kf) (congrArg Value.bool h7)) ?_
     refine sp 38 (.pointer (some ⟨b0_0, 0, none⟩)) ?_
     refine sl 39 (iv p.kind) (load1 (off := 0) (fun _ => kf) (holds_own (.there .here)) kf) ?_
     refine sp 40 (.bool (!(decide (p.kind = (2 : Int))))) ?_
     refine sp 41 (.bool (!(decide (p.kind = (2 : Int))))) ?_
     refine sp 42 (.bool (!(decide (p.kind = (2 : Int))))) ?_
     refine ops_end ?_
     refine ae [(0, .pointer (some ⟨h, 0, none⟩)), (3, .pointer (some ⟨b0_0, 0, none⟩)), (4, .pointer (some ⟨b0_1, 0, none⟩)), (42, .bool (!(decide (p.kind = (2 : Int)))))] ?_
     refine at_then_normal ?_
     rcases Bool.eq_false_or_eq_true (!(decide (p.kind = (2 : Int)))) with h8 | h8
     ·replace H := bifT H h8
      refine at_true (t := !(decide (p.kind = (2 : Int)))) (x := C10 [1,1,0,1,0]) (y := C10 [1,1,0,1,1]) (o := .tmp 42) kf kf kf h8 ?_
      refine aq (x := C10 [1,1,0,1,0,0]) (y := C10 [1,1,0,1,0,1]) ?_
      refine ar (id := 3) 4 ?_
      refine sp 43 (.agg #[iv (0), iv (0), iv (0), iv (0), iv (0), iv (0), iv (0), .bool false, .slice none 0 0]) ?_
      refine s_do kf kf (st_store (off := 0) (vs := [iv (0), iv (0), iv (0), iv (0), iv (0), iv (0), iv (0), .bool false, .slice none 0 0]) (c' := #[iv (0), iv (0), iv (0), iv (0), iv (0), iv (0), iv (0), .bool false, .slice none 0 0]) (fun _ => kf) .here kf kf kf) ?_
      rintro _ _ ⟨rfl, rfl⟩
      refine sp 5 (.bool false) ?_
      refine sp 6 (iv (1)) ?_
      refine ops_end ?_
      refine ae [(4, .pointer (some ⟨b0_1, 0, none⟩)), (5, .bool false), (6, iv (1))] ?_
      refine at_then_normal ?_
      refine at_ret kf ?_
      refine at_then_ret ?_
      obtain rfl := someE H
      refine at_backR [.agg #[iv (0), iv (0), iv (0), iv (0), iv (0), iv (0), iv (0), .bool false, .slice none 0 0], .bool false, iv (1)] ((IntsA none 0 ([] : List Int)) :: (HomeA h hc) :: Γ) (rs := [.cell 4 32, .tmp 5, .tmp 6]) kf (.cons (.cell kf (retN (off := 0) (vs := [iv (0), iv (0), iv (0), iv (0), iv (0), iv (0), iv (0), .bool false, .slice none 0 0]) 9 (fun _ => kf) (holds_own .here) rfl (by exact ⟨rfl, rfl, rfl, rfl, rfl, rfl, rfl, rfl, rfl, trivial⟩))) (.cons (.tmp kf) (.cons (.tmp kf) .nil))) (fun w hw => (Sat.less (.take .here (.take (.there (.there .here)) (.drop .here (.drop .here .refl)))) (RowsA.none_mk (k := 1) (a := none) hw))) ?_
      exact ⟨none, 0, rfl, rfl⟩
     ·replace H := bifF H h8
      refine at_false (t := !(decide (p.kind = (2 : Int)))) (x := C10 [1,1,0,1,0]) (y := C10 [1,1,0,1,1]) (o := .tmp 42) kf kf kf h8 ?_
      refine at_skip kf ?_
      refine at_round_normal ?_
      exact at_join_mk [(0, .pointer (some ⟨h, 0, none⟩)), (3, .pointer (some ⟨b0_0, 0, none⟩)), (4, .pointer (some ⟨b0_1, 0, none⟩))] ((Asn.own b0_1 (.cells #[iv (0), iv (0), iv (0), iv (0), iv (0), iv (0), iv (0), .bool false, .slice none 0 0] 32 (0, 0))) :: (Asn.own b0_0 (.cells #[iv p.kind, iv p.src, iv p.dst, iv p.id, iv p.line, iv p.ptr, iv p.state, .bool p.flag, .slice pa (List.length p.data) pcap] 32 (0, 0))) :: (HomeA h hc) :: Γ) ⟨kf, kf, kf, trivial⟩ (fun w hw => (Sat.less (.take .here (.take .here (.take .here .refl))) hw)) ⟨H, rfl, rfl⟩
    ·replace H := bifF H h7
     refine sr 37 (.bool false) (run_eq (v := .bool (!(decide (p.kind = (1 : Int))))) (fun _ => kf) (congrArg Value.bool h7)) ?_
     refine sa 38 ?_
     refine sa 39 ?_
     refine sa 40 ?_
     refine sp 41 (.bool false) ?_
     refine sp 42 (.bool false) ?_
     refine ops_end ?_
     refine ae [(0, .pointer (some ⟨h, 0, none⟩)), (3, .pointer (some ⟨b0_0, 0, none⟩)), (4, .pointer (some ⟨b0_1, 0, none⟩)), (42, .bool false)] ?_
     refine at_then_normal ?_
     refine at_false (t := false) (x := C10 [1,1,0,1,0]) (y := C10 [1,1,0,1,1]) (o := .tmp 42) kf kf kf rfl ?_
     refine at_skip kf ?_
     refine at_round_normal ?_
     exact at_join_mk [(0, .pointer (some ⟨h, 0, none⟩)), (3, .pointer (some ⟨b0_0, 0, none⟩)), (4, .pointer (some ⟨b0_1, 0, none⟩))] ((Asn.own b0_1 (.cells #[iv (0), iv (0), iv (0), iv (0), iv (0), iv (0), iv (0), .bool false, .slice none 0 0] 32 (0, 0))) :: (Asn.own b0_0 (.cells #[iv p.kind, iv p.src, iv p.dst, iv p.id, iv p.line, iv p.ptr, iv p.state, .bool p.flag, .slice pa (List.length p.data) pcap] 32 (0, 0))) :: (HomeA h hc) :: Γ) ⟨kf, kf, kf, trivial⟩ (fun w hw => (Sat.less (.take .here (.take .here (.take .here .refl))) hw)) ⟨H, rfl, rfl⟩
 ·refine at_region_draw (id := 1) kf kf ?_
  refine dl 0 9 (.agg #[iv p.kind, iv p.src, iv p.dst, iv p.id, iv p.line, iv p.ptr, iv p.state, .bool p.flag, .slice pa (List.length p.data) pcap]) (loadN (off := 0) (vs := [iv p.kind, iv p.src, iv p.dst, iv p.id, iv p.line, iv p.ptr, iv p.state, .bool p.flag, .slice pa (List.length p.data) pcap]) 9 (fun _ => kf) (holds_own (.there .here)) rfl (by exact ⟨rfl, rfl, rfl, rfl, rfl, rfl, rfl, rfl, rfl, trivial⟩)) ?_
  obtain ⟨y1_1, hy1_1, H⟩ := bindE H
  refine d_call 1 10 [0] [] [] 27 #[.agg #[iv p.kind, iv p.src, iv p.dst, iv p.id, iv p.line, iv p.ptr, iv p.state, .bool p.flag, .slice pa (List.length p.data) pcap]] kf kf kf (fun _ => kf) (PCheckF_tr pa pcap p (Reads.conv (fun w hw => hw.less (.drop .here (.drop .here (.drop .here .refl)))) hrpa) y1_1 hy1_1) ?_
  rintro _ _ ⟨rfl, rfl⟩
  refine ⟨stable_nil, ?_⟩
  refine dp 2 11 (.bool (decide (y1_1 = (0 : Int)))) ?_
  rcases Bool.eq_false_or_eq_true (decide (y1_1 = (0 : Int))) with h9 | h9
  ·replace H := bifT H h9
   refine d_pure 3 12 (.bool true) kf kf kf (run_eq (v := .bool (decide (y1_1 = (0 : Int)))) (fun _ => kf) (congrArg Value.bool h9)) ?_
   refine dp 4 13 (.pointer (some ⟨b0_0, 2, none⟩)) ?_
   refine dl 5 14 (iv p.dst) (load1 (off := 2) (fun _ => kf) (holds_own (.there .here)) kf) ?_
   refine dp 6 15 (.pointer (some ⟨h, 0, none⟩)) ?_
   refine dp 7 16 (.pointer (some ⟨h, 0, none⟩)) ?_
   refine dp 8 17 (.pointer (some ⟨h, 10, none⟩)) ?_
   refine HomeA.tox_draw (.there (.there .here)) ?_
   intro x1_9_h
   refine HomeXA.open_draw .here ?_
   refine dl 9 18 (iv hc.node) (load1 (off := 10) (fun _ => kf) (holds_own .here) kf) ?_
   refine dp 10 19 (.bool (decide (p.dst = hc.node))) ?_
   refine dp 11 20 (.bool (decide (p.dst = hc.node))) ?_
   rcases Bool.eq_false_or_eq_true (decide (p.dst = hc.node)) with h10 | h10
   ·replace H := bifT H h10
    refine d_pure 12 21 (.bool true) kf kf kf (run_eq (v := .bool (decide (p.dst = hc.node))) (fun _ => kf) (congrArg Value.bool h10)) ?_
    refine dp 13 22 (.pointer (some ⟨b0_0, 1, none⟩)) ?_
    refine dl 14 23 (iv p.src) (load1 (off := 1) (fun _ => kf) (holds_own (.there (.there (.there (.there (.there .here)))))) kf) ?_
    refine dp 15 24 (.pointer (some ⟨h, 0, none⟩)) ?_
    refine dp 16 25 (.pointer (some ⟨h, 0, none⟩)) ?_
    refine dp 17 26 (.pointer (some ⟨h, 2, none⟩)) ?_
    refine dp 18 27 (.pointer (some ⟨h, 2, none⟩)) ?_
    refine dl 19 28 (iv hc.c.nodes) (load1 (off := 2) (fun _ => kf) (holds_own .here) kf) ?_
    refine dp 20 29 (.bool (decide (p.src < hc.c.nodes))) ?_
    refine dp 21 30 (.bool (decide (p.src < hc.c.nodes))) ?_
    refine dp 22 7 (.bool (decide (p.src < hc.c.nodes))) ?_
    refine draw_end kf ?_
    refine ae [(0, .pointer (some ⟨h, 0, none⟩)), (3, .pointer (some ⟨b0_0, 0, none⟩)), (4, .pointer (some ⟨b0_1, 0, none⟩)), (7, .bool (decide (p.src < hc.c.nodes)))] ?_
    refine at_round_normal ?_
    refine At.conv (Γ' := (HomeXA h x1_9_h hc) :: (ImmI x1_9_h.a9 hc.c.init) :: (Asn.own b0_1 (.cells #[iv (0), iv (0), iv (0), iv (0), iv (0), iv (0), iv (0), .bool false, .slice none 0 0] 32 (0, 0))) :: (Asn.own b0_0 (.cells #[iv p.kind, iv p.src, iv p.dst, iv p.id, iv p.line, iv p.ptr, iv p.state, .bool p.flag, .slice pa (List.length p.data) pcap] 32 (0, 0))) :: Γ) (fun w hw => HomeXA.close (x := x1_9_h) (t := hc) (Sat.less (.take (.there (.there .here)) (.take (.there (.there .here)) (.take (.there (.there .here)) (.take .here (.take .here (.take .here (.take .here .refl))))))) (ImmR.dup (Sat.less (.take (.there (.there (.there .here))) (.take .here (.take .here (.take .here (.take .here (.take .here .refl)))))) hw)))) ?_
    refine At.conv (Γ' := (HomeA h hc) :: (ImmI x1_9_h.a9 hc.c.init) :: (Asn.own b0_1 (.cells #[iv (0), iv (0), iv (0), iv (0), iv (0), iv (0), iv (0), .bool false, .slice none 0 0] 32 (0, 0))) :: (Asn.own b0_0 (.cells #[iv p.kind, iv p.src, iv p.dst, iv p.id, iv p.line, iv p.ptr, iv p.state, .bool p.flag, .slice pa (List.length p.data) pcap] 32 (0, 0))) :: Γ) (fun w hw => HomeXA.shut (hw.pull .here)) ?_
    exact at_join_mk [(0, .pointer (some ⟨h, 0, none⟩)), (3, .pointer (some ⟨b0_0, 0, none⟩)), (4, .pointer (some ⟨b0_1, 0, none⟩)), (7, .bool (decide (p.src < hc.c.nodes)))] ((Asn.own b0_1 (.cells #[iv (0), iv (0), iv (0), iv (0), iv (0), iv (0), iv (0), .bool false, .slice none 0 0] 32 (0, 0))) :: (Asn.own b0_0 (.cells #[iv p.kind, iv p.src, iv p.dst, iv p.id, iv p.line, iv p.ptr, iv p.state, .bool p.flag, .slice pa (List.length p.data) pcap] 32 (0, 0))) :: (HomeA h hc) :: Γ) ⟨kf, kf, kf, kf, trivial⟩ (fun w hw => (Sat.less (.take (.there (.there .here)) (.take (.there (.there .here)) (.take .here (.drop .here .refl)))) hw)) ⟨decide (p.src < hc.c.nodes), H, rfl, rfl⟩
   ·replace H := bifF H h10
    refine d_pure 12 21 (.bool false) kf kf kf (run_eq (v := .bool (decide (p.dst = hc.node))) (fun _ => kf) (congrArg Value.bool h10)) ?_
    refine d_off 13 22 kf kf kf ?_
    refine d_off 14 23 kf kf kf ?_
    refine d_off 15 24 kf kf kf ?_
    refine d_off 16 25 kf kf kf ?_
    refine d_off 17 26 kf kf kf ?_
    refine d_off 18 27 kf kf kf ?_
    refine d_off 19 28 kf kf kf ?_
    refine d_off 20 29 kf kf kf ?_
    refine dp 21 30 (.bool false) ?_
    refine dp 22 7 (.bool false) ?_
    refine draw_end kf ?_
    refine ae [(0, .pointer (some ⟨h, 0, none⟩)), (3, .pointer (some ⟨b0_0, 0, none⟩)), (4, .pointer (some ⟨b0_1, 0, none⟩)), (7, .bool false)] ?_
    refine at_round_normal ?_
    refine At.conv (Γ' := (HomeXA h x1_9_h hc) :: (ImmI x1_9_h.a9 hc.c.init) :: (Asn.own b0_1 (.cells #[iv (0), iv (0), iv (0), iv (0), iv (0), iv (0), iv (0), .bool false, .slice none 0 0] 32 (0, 0))) :: (Asn.own b0_0 (.cells #[iv p.kind, iv p.src, iv p.dst, iv p.id, iv p.line, iv p.ptr, iv p.state, .bool p.flag, .slice pa (List.length p.data) pcap] 32 (0, 0))) :: Γ) (fun w hw => HomeXA.close (x := x1_9_h) (t := hc) (Sat.less (.take (.there (.there .here)) (.take (.there (.there .here)) (.take (.there (.there .here)) (.take .here (.take .here (.take .here (.take .here .refl))))))) (ImmR.dup (Sat.less (.take (.there (.there (.there .here))) (.take .here (.take .here (.take .here (.take .here (.take .here .refl)))))) hw)))) ?_
    refine At.conv (Γ' := (HomeA h hc) :: (ImmI x1_9_h.a9 hc.c.init) :: (Asn.own b0_1 (.cells #[iv (0), iv (0), iv (0), iv (0), iv (0), iv (0), iv (0), .bool false, .slice none 0 0] 32 (0, 0))) :: (Asn.own b0_0 (.cells #[iv p.kind, iv p.src, iv p.dst, iv p.id, iv p.line, iv p.ptr, iv p.state, .bool p.flag, .slice pa (List.length p.data) pcap] 32 (0, 0))) :: Γ) (fun w hw => HomeXA.shut (hw.pull .here)) ?_
    exact at_join_mk [(0, .pointer (some ⟨h, 0, none⟩)), (3, .pointer (some ⟨b0_0, 0, none⟩)), (4, .pointer (some ⟨b0_1, 0, none⟩)), (7, .bool false)] ((Asn.own b0_1 (.cells #[iv (0), iv (0), iv (0), iv (0), iv (0), iv (0), iv (0), .bool false, .slice none 0 0] 32 (0, 0))) :: (Asn.own b0_0 (.cells #[iv p.kind, iv p.src, iv p.dst, iv p.id, iv p.line, iv p.ptr, iv p.state, .bool p.flag, .slice pa (List.length p.data) pcap] 32 (0, 0))) :: (HomeA h hc) :: Γ) ⟨kf, kf, kf, kf, trivial⟩ (fun w hw => (Sat.less (.take (.there (.there .here)) (.take (.there (.there .here)) (.take .here (.drop .here .refl)))) hw)) ⟨false, H, rfl, rfl⟩
  ·replace H := bifF H h9
   refine d_pure 3 12 (.bool false) kf kf kf (run_eq (v := .bool (decide (y1_1 = (0 : Int)))) (fun _ => kf) (congrArg Value.bool h9)) ?_
   refine d_off 4 13 kf kf kf ?_
   refine d_off 5 14 kf kf kf ?_
   refine d_off 6 15 kf kf kf ?_
   refine d_off 7 16 kf kf kf ?_
   refine d_off 8 17 kf kf kf ?_
   refine d_off 9 18 kf kf kf ?_
   refine d_off 10 19 kf kf kf ?_
   refine dp 11 20 (.bool false) ?_
   refine dp 12 21 (.bool false) ?_
   refine d_off 13 22 kf kf kf ?_
   refine d_off 14 23 kf kf kf ?_
   refine d_off 15 24 kf kf kf ?_
   refine d_off 16 25 kf kf kf ?_
   refine d_off 17 26 kf kf kf ?_
   refine d_off 18 27 kf kf kf ?_
   refine d_off 19 28 kf kf kf ?_
   refine d_off 20 29 kf kf kf ?_
   refine dp 21 30 (.bool false) ?_
   refine dp 22 7 (.bool false) ?_
   refine draw_end kf ?_
   refine ae [(0, .pointer (some ⟨h, 0, none⟩)), (3, .pointer (some ⟨b0_0, 0, none⟩)), (4, .pointer (some ⟨b0_1, 0, none⟩)), (7, .bool false)] ?_
   refine at_round_normal ?_
   exact at_join_mk [(0, .pointer (some ⟨h, 0, none⟩)), (3, .pointer (some ⟨b0_0, 0, none⟩)), (4, .pointer (some ⟨b0_1, 0, none⟩)), (7, .bool false)] ((Asn.own b0_1 (.cells #[iv (0), iv (0), iv (0), iv (0), iv (0), iv (0), iv (0), .bool false, .slice none 0 0] 32 (0, 0))) :: (Asn.own b0_0 (.cells #[iv p.kind, iv p.src, iv p.dst, iv p.id, iv p.line, iv p.ptr, iv p.state, .bool p.flag, .slice pa (List.length p.data) pcap] 32 (0, 0))) :: (HomeA h hc) :: Γ) ⟨kf, kf, kf, kf, trivial⟩ (fun w hw => (Sat.less (.take .here (.take .here (.take .here .refl))) hw)) ⟨false, H, rfl, rfl⟩
def hpendingS (hc : HomeS) : Option (Bool) :=
 (treadyS hc.turns).bind fun y1_4 => some (decide ((0 : Int) < (((List.length y1_4) : Nat) : Int)))
noncomputable def C13 (p : List Nat) : Code := codeAt (bodyOf Try.f13) p
set_option maxRecDepth 100000 in
set_option maxHeartbeats 8000000 in
theorem HPendingF_tr {W0 : World} {Γ : List Asn} (h : Nat) (hc : HomeS)  (y : Bool) (H : hpendingS hc = some y) : Tr Try.prog 13 #[.pointer (some ⟨h, 0, none⟩)] W0 ((HomeA h hc) :: Γ) (fun r Δ => r = .bool y ∧ Δ = (HomeA h hc) :: Γ) := by
 unfold hpendingS at H
 refine Tr.enter (fn := Try.f13) (c := C13 []) (args := [.pointer (some ⟨h, 0, none⟩)]) 10 Try.func13 kf kf ?_
 refine ae [(0, .pointer (some ⟨h, 0, none⟩))] ?_
 refine aq (x := C13 [0]) (y := C13 [1]) ?_
 refine ar (id := 0) 1 ?_
 refine sp 2 (.bool false) ?_
 refine ops_end ?_
 refine ae [(0, .pointer (some ⟨h, 0, none⟩))] ?_
 refine at_then_normal ?_
 refine aq (x := C13 [1,0]) (y := C13 [1,1]) ?_
 refine ar (id := 1) 8 ?_
 refine sp 3 (.pointer (some ⟨h, 0, none⟩)) ?_
 refine sp 4 (.pointer (some ⟨h, 0, none⟩)) ?_
 refine sp 5 (.pointer (some ⟨h, 1, none⟩)) ?_
 refine HomeA.tox .here ?_
 intro x1_3_h
 refine HomeXA.open .here ?_
 refine sl 6 (.pointer (some ⟨x1_3_h.b1, 0, none⟩)) (load1 (off := 1) (fun _ => kf) (holds_own .here) kf) ?_
 obtain ⟨y1_4, hy1_4, H⟩ := bindE H
 refine s_call 7 32 #[.pointer (some ⟨x1_3_h.b1, 0, none⟩)] kf kf (fun _ => kf) (Tr.conv (Γ' := (TurnsA x1_3_h.b1 hc.turns) :: (Asn.own h (.cells #[.pointer (some ⟨x1_3_h.b0, 0, none⟩), .pointer (some ⟨x1_3_h.b1, 0, none⟩), iv hc.c.nodes, iv hc.c.lines, iv hc.c.words, iv hc.c.sets, iv hc.c.ways, iv hc.c.out, iv hc.c.inn, .slice x1_3_h.a9 (List.length hc.c.init) x1_3_h.c9, iv hc.node] x1_3_h.T (0, 0))) :: (DirA x1_3_h.b0 hc.dir) :: (ImmI x1_3_h.a9 hc.c.init) :: Γ) (fun w hw => (Sat.less (.take (.there (.there .here)) (.take .here (.take .here (.take .here .refl)))) hw)) (TReadyF_tr x1_3_h.b1 hc.turns y1_4 hy1_4)) ?_
 rintro _ _ ⟨a1_4_00, c1_4_00, rfl, rfl⟩
 refine sp 8 (iv (((List.length y1_4) : Nat) : Int)) ?_
 refine sp 9 (.bool (decide ((0 : Int) < (((List.length y1_4) : Nat) : Int)))) ?_
 refine sp 2 (.bool (decide ((0 : Int) < (((List.length y1_4) : Nat) : Int)))) ?_
 refine ops_end ?_
 refine ae [(2, .bool (decide ((0 : Int) < (((List.length y1_4) : Nat) : Int))))] ?_
 refine at_then_normal ?_
 refine at_ret kf ?_
 refine At.conv (Γ' := (HomeXA h x1_3_h hc) :: (ImmI x1_3_h.a9 hc.c.init) :: (IntsA a1_4_00 c1_4_00 y1_4) :: Γ) (fun w hw => HomeXA.close (x := x1_3_h) (t := hc) (Sat.less (.take (.there (.there (.there (.there .here)))) (.take (.there (.there (.there (.there .here)))) (.take (.there (.there (.there .here))) (.take .here (.take .here (.take .here .refl)))))) (ImmR.dup (Sat.less (.take (.there (.there (.there (.there .here)))) (.take .here (.take .here (.take .here (.take .here .refl))))) hw)))) ?_
 refine At.conv (Γ' := (HomeA h hc) :: (ImmI x1_3_h.a9 hc.c.init) :: (IntsA a1_4_00 c1_4_00 y1_4) :: Γ) (fun w hw => HomeXA.shut (hw.pull .here)) ?_
 obtain rfl := someE H
 refine at_backR [.bool (decide ((0 : Int) < (((List.length y1_4) : Nat) : Int)))] ((HomeA h hc) :: Γ) (rs := [.tmp 2]) kf (.cons (.tmp kf) .nil) (fun w hw => (Sat.less (.take .here (.drop .here (.drop .here .refl))) hw)) ?_
 exact ⟨rfl, rfl⟩
def hgrantS_k0 (e0_15 : Int) (e0_h : HomeS) : Option (PktS × Bool × HomeS) :=
 some ((⟨0, 0, 0, 0, 0, 0, 0, false, ([] : List Int)⟩ : PktS), false, e0_h)
def hgrantS_l0 (y1_4 : (List Int)) (k0 : Int → HomeS → Option (PktS × Bool × HomeS)) : Nat → Int → HomeS → Option (PktS × Bool × HomeS)
 | 0 => fun _ _ => none
 | m + 1 => fun v0_15 v0_h => (bif decide (v0_15 < (((List.length y1_4) : Nat) : Int)) then chk (0 ≤ v0_15 ∧ v0_15 < ((y1_4.length : Nat) : Int)) ((tnextS v0_h.turns (nth y1_4 v0_15)).bind fun y4_5 => (bif y4_5.2.2.1 then (hgrantedS ({ dir := v0_h.dir, turns := y4_5.2.2.2, c := v0_h.c, node := v0_h.node } : HomeS) (nth y1_4 v0_15) y4_5.1 y4_5.2.1).bind fun y6_4 => some (y6_4, true, ({ dir := v0_h.dir, turns := y4_5.2.2.2, c := v0_h.c, node := v0_h.node } : HomeS)) else chk (inR (v0_15 + (1 : Int))) ((hgrantS_l0 y1_4 k0 m) (v0_15 + (1 : Int)) ({ dir := v0_h.dir, turns := y4_5.2.2.2, c := v0_h.c, node := v0_h.node } : HomeS)))) else k0 v0_15 v0_h)
def hgrantS (hc : HomeS) : Option (PktS × Bool × HomeS) :=
 (treadyS hc.turns).bind fun y1_4 => hgrantS_l0 y1_4 (hgrantS_k0 ) 64 0 hc
noncomputable def C16 (p : List Nat) : Code := codeAt (bodyOf Try.f16) p
set_option maxRecDepth 100000 in
set_option maxHeartbeats 8000000 in
theorem HGrantF_tr {W0 : World} {Γ : List Asn} (h : Nat) (hc : HomeS)  (y : PktS × Bool × HomeS) (H : hgrantS hc = some y) : Tr Try.prog 16 #[.pointer (some ⟨h, 0, none⟩)] W0 ((HomeA h hc) :: Γ) (fun r Δ => ∃ (a0_0 : Option Addr) (c0_0 : Nat), r = .tuple #[.agg #[iv y.1.kind, iv y.1.src, iv y.1.dst, iv y.1.id, iv y.1.line, iv y.1.ptr, iv y.1.state, .bool y.1.flag, .slice a0_0 (List.length y.1.data) c0_0], .bool y.2.1] ∧ Δ = (IntsA a0_0 c0_0 y.1.data) :: (HomeA h y.2.2) :: Γ) := by
 unfold hgrantS at H
 refine Tr.enter (fn := Try.f16) (c := C16 []) (args := [.pointer (some ⟨h, 0, none⟩)]) 37 Try.func16 kf kf ?_
 refine ae [(0, .pointer (some ⟨h, 0, none⟩))] ?_
 refine aq (x := C16 [0]) (y := C16 [1]) ?_
 refine ar (id := 0) 2 ?_
 refine s_step 2 kf kf (st_new (T := 32) (cells := #[iv (0), iv (0), iv (0), iv (0), iv (0), iv (0), iv (0), .bool false, .slice none 0 0]) (fun a => .pointer (some a)) (fun _ => kf)) ?_
 rintro _ _ ⟨b0_0, rfl, rfl⟩
 refine sp 3 (.bool false) ?_
 refine ops_end ?_
 refine ae [(0, .pointer (some ⟨h, 0, none⟩)), (2, .pointer (some ⟨b0_0, 0, none⟩))] ?_
 refine at_then_normal ?_
 refine aq (x := C16 [1,0]) (y := C16 [1,1]) ?_
 refine aq (x := C16 [1,0,0]) (y := C16 [1,0,1]) ?_
 refine ar (id := 1) 7 ?_
 refine sp 9 (.pointer (some ⟨h, 0, none⟩)) ?_
 refine sp 10 (.pointer (some ⟨h, 0, none⟩)) ?_
 refine sp 11 (.pointer (some ⟨h, 1, none⟩)) ?_
 refine HomeA.tox (.there .here) ?_
 intro x1_3_h
 refine HomeXA.open .here ?_
 refine sl 12 (.pointer (some ⟨x1_3_h.b1, 0, none⟩)) (load1 (off := 1) (fun _ => kf) (holds_own .here) kf) ?_
 obtain ⟨y1_4, hy1_4, H⟩ := bindE H
 refine s_call 13 32 #[.pointer (some ⟨x1_3_h.b1, 0, none⟩)] kf kf (fun _ => kf) (Tr.conv (Γ' := (TurnsA x1_3_h.b1 hc.turns) :: (Asn.own h (.cells #[.pointer (some ⟨x1_3_h.b0, 0, none⟩), .pointer (some ⟨x1_3_h.b1, 0, none⟩), iv hc.c.nodes, iv hc.c.lines, iv hc.c.words, iv hc.c.sets, iv hc.c.ways, iv hc.c.out, iv hc.c.inn, .slice x1_3_h.a9 (List.length hc.c.init) x1_3_h.c9, iv hc.node] x1_3_h.T (0, 0))) :: (DirA x1_3_h.b0 hc.dir) :: (ImmI x1_3_h.a9 hc.c.init) :: (Asn.own b0_0 (.cells #[iv (0), iv (0), iv (0), iv (0), iv (0), iv (0), iv (0), .bool false, .slice none 0 0] 32 (0, 0))) :: Γ) (fun w hw => (Sat.less (.take (.there (.there .here)) (.take .here (.take .here (.take .here (.take .here .refl))))) hw)) (TReadyF_tr x1_3_h.b1 hc.turns y1_4 hy1_4)) ?_
 rintro _ _ ⟨a1_4_00, c1_4_00, rfl, rfl⟩
 refine sp 14 (iv (((List.length y1_4) : Nat) : Int)) ?_
 refine sp 15 (iv (0)) ?_
 refine ops_end ?_
 refine ae [(0, .pointer (some ⟨h, 0, none⟩)), (2, .pointer (some ⟨b0_0, 0, none⟩)), (13, .slice a1_4_00 (List.length y1_4) c1_4_00), (14, iv (((List.length y1_4) : Nat) : Int)), (15, iv (0))] ?_
 refine at_then_normal ?_
 refine at_block (i := 0) (x := C16 [1,0,1,0]) kf ?_
 refine At.conv (Γ' := (HomeXA h x1_3_h hc) :: (ImmI x1_3_h.a9 hc.c.init) :: (IntsA a1_4_00 c1_4_00 y1_4) :: (Asn.own b0_0 (.cells #[iv (0), iv (0), iv (0), iv (0), iv (0), iv (0), iv (0), .bool false, .slice none 0 0] 32 (0, 0))) :: Γ) (fun w hw => HomeXA.close (x := x1_3_h) (t := hc) (Sat.less (.take (.there (.there (.there (.there .here)))) (.take (.there (.there (.there (.there .here)))) (.take (.there (.there (.there .here))) (.take .here (.take .here (.take .here (.take .here .refl))))))) (ImmR.dup (Sat.less (.take (.there (.there (.there (.there .here)))) (.take .here (.take .here (.take .here (.take .here (.take .here .refl)))))) hw)))) ?_
 refine At.conv (Γ' := (HomeA h hc) :: (ImmI x1_3_h.a9 hc.c.init) :: (IntsA a1_4_00 c1_4_00 y1_4) :: (Asn.own b0_0 (.cells #[iv (0), iv (0), iv (0), iv (0), iv (0), iv (0), iv (0), .bool false, .slice none 0 0] 32 (0, 0))) :: Γ) (fun w hw => HomeXA.shut (hw.pull .here)) ?_
 refine At.conv (Γ' := (HomeA h hc) :: (IntsA a1_4_00 c1_4_00 y1_4) :: (Asn.own b0_0 (.cells #[iv (0), iv (0), iv (0), iv (0), iv (0), iv (0), iv (0), .bool false, .slice none 0 0] 32 (0, 0))) :: Γ) (fun w hw => (Sat.less (.take .here (.take (.there .here) (.take (.there .here) (.drop .here .refl)))) hw)) ?_
 refine at_loopR (x := C16 [1,0,1,0,0]) (fun mm ff ΔΔ => ∃ (fuel : Nat) (v0_15 : Int) (v0_h : HomeS), hgrantS_l0 y1_4 (hgrantS_k0 ) fuel v0_15 v0_h = some y ∧ fuel = mm ∧ ff = [(0, .pointer (some ⟨h, 0, none⟩)), (2, .pointer (some ⟨b0_0, 0, none⟩)), (13, .slice a1_4_00 (List.length y1_4) c1_4_00), (14, iv (((List.length y1_4) : Nat) : Int)), (15, iv v0_15)] ∧ (HomeA h v0_h) :: (IntsA a1_4_00 c1_4_00 y1_4) :: (Asn.own b0_0 (.cells #[iv (0), iv (0), iv (0), iv (0), iv (0), iv (0), iv (0), .bool false, .slice none 0 0] 32 (0, 0))) :: Γ = ΔΔ) (64) kf [(0, .pointer (some ⟨h, 0, none⟩)), (2, .pointer (some ⟨b0_0, 0, none⟩)), (13, .slice a1_4_00 (List.length y1_4) c1_4_00), (14, iv (((List.length y1_4) : Nat) : Int)), (15, iv 0)] ⟨kf, kf, kf, kf, kf, trivial⟩ ⟨64, 0, hc, H, rfl, rfl, rfl⟩ ?_
 rintro _ _ _ ⟨fuel1, v0_15, v0_h, H, rfl, rfl, rfl⟩
 rcases fuel1 with _ | fuel1
 ·exact (noneE H).elim
 rw [hgrantS_l0] at H
 refine aq (x := C16 [1,0,1,0,0,0]) (y := C16 [1,0,1,0,0,1]) ?_
 refine ar (id := 2) 1 ?_
 refine sp 16 (.bool (decide (v0_15 < (((List.length y1_4) : Nat) : Int)))) ?_
 refine ops_end ?_
 refine ae [(0, .pointer (some ⟨h, 0, none⟩)), (2, .pointer (some ⟨b0_0, 0, none⟩)), (13, .slice a1_4_00 (List.length y1_4) c1_4_00), (14, iv (((List.length y1_4) : Nat) : Int)), (15, iv v0_15), (16, .bool (decide (v0_15 < (((List.length y1_4) : Nat) : Int))))] ?_
 refine at_then_normal ?_
 refine aq (x := C16 [1,0,1,0,0,1,0]) (y := C16 [1,0,1,0,0,1,1]) ?_
 rcases Bool.eq_false_or_eq_true (decide (v0_15 < (((List.length y1_4) : Nat) : Int))) with h1 | h1
 ·replace H := bifT H h1
  refine at_true (t := decide (v0_15 < (((List.length y1_4) : Nat) : Int))) (x := C16 [1,0,1,0,0,1,0,0]) (y := C16 [1,0,1,0,0,1,0,1]) (o := .tmp 16) kf kf kf h1 ?_
  refine at_skip kf ?_
  refine at_then_normal ?_
  refine aq (x := C16 [1,0,1,0,0,1,1,0]) (y := C16 [1,0,1,0,0,1,1,1]) ?_
  refine at_block (i := 1) (x := C16 [1,0,1,0,0,1,1,0,0]) kf ?_
  refine aq (x := C16 [1,0,1,0,0,1,1,0,0,0]) (y := C16 [1,0,1,0,0,1,1,0,0,1]) ?_
  refine ar (id := 3) 3 ?_
  obtain ⟨hc3_0_0, H⟩ := chkE H
  refine rows_at (.there .here) (by have := hc3_0_0; simp only [ints_length]; omega) ?_
  intro bb1 oo1 ha1
  refine sr 17 (.pointer (some ⟨bb1, oo1 + ((v0_15).toNat * 1 + 0), none⟩)) (index_at (t := 22) (sz := 1) (E := 3) (a := a1_4_00) (m := (List.length y1_4)) (c := c1_4_00) (b := bb1) (off := oo1) (i := (v0_15).toNat) (tinfo 3) (fun _ => kf) kf kf kf ha1 (idx_cast hc3_0_0) (idx_nat hc3_0_0) rfl) ?_
  refine sl 18 (iv (nth y1_4 v0_15)) (load1_at (off := oo1 + ((v0_15).toNat * 1 + 0)) (v := iv (nth y1_4 v0_15)) (fun _ => kf) rfl (reads_cell (k := 1) (RowsA.reads (k := 1) (.there .here)) (ints_rows _) ha1 (nth_row hc3_0_0) (show [(iv (nth y1_4 v0_15) : Value)][0]? = some _ from rfl))) ?_
  refine sp 5 (iv (nth y1_4 v0_15)) ?_
  refine ops_end ?_
  refine ae [(0, .pointer (some ⟨h, 0, none⟩)), (2, .pointer (some ⟨b0_0, 0, none⟩)), (5, iv (nth y1_4 v0_15)), (13, .slice a1_4_00 (List.length y1_4) c1_4_00), (14, iv (((List.length y1_4) : Nat) : Int)), (15, iv v0_15)] ?_
  refine at_then_normal ?_
  refine aq (x := C16 [1,0,1,0,0,1,1,0,0,1,0]) (y := C16 [1,0,1,0,0,1,1,0,0,1,1]) ?_
  refine ar (id := 4) 13 ?_
  refine sp 20 (.pointer (some ⟨h, 0, none⟩)) ?_
  refine sp 21 (.pointer (some ⟨h, 0, none⟩)) ?_
  refine sp 22 (.pointer (some ⟨h, 1, none⟩)) ?_
  refine HomeA.tox .here ?_
  intro x4_3_h
  refine HomeXA.open .here ?_
  refine sl 23 (.pointer (some ⟨x4_3_h.b1, 0, none⟩)) (load1 (off := 1) (fun _ => kf) (holds_own .here) kf) ?_
  refine sp 24 (iv (nth y1_4 v0_15)) ?_
  obtain ⟨y4_5, hy4_5, H⟩ := bindE H
  refine s_call 25 34 #[.pointer (some ⟨x4_3_h.b1, 0, none⟩), iv (nth y1_4 v0_15)] kf kf (fun _ => kf) (Tr.conv (Γ' := (TurnsA x4_3_h.b1 v0_h.turns) :: (Asn.own h (.cells #[.pointer (some ⟨x4_3_h.b0, 0, none⟩), .pointer (some ⟨x4_3_h.b1, 0, none⟩), iv v0_h.c.nodes, iv v0_h.c.lines, iv v0_h.c.words, iv v0_h.c.sets, iv v0_h.c.ways, iv v0_h.c.out, iv v0_h.c.inn, .slice x4_3_h.a9 (List.length v0_h.c.init) x4_3_h.c9, iv v0_h.node] x4_3_h.T (0, 0))) :: (DirA x4_3_h.b0 v0_h.dir) :: (ImmI x4_3_h.a9 v0_h.c.init) :: (IntsA a1_4_00 c1_4_00 y1_4) :: (Asn.own b0_0 (.cells #[iv (0), iv (0), iv (0), iv (0), iv (0), iv (0), iv (0), .bool false, .slice none 0 0] 32 (0, 0))) :: Γ) (fun w hw => (Sat.less (.take (.there (.there .here)) (.take .here (.take .here (.take .here (.take .here (.take .here .refl)))))) hw)) (TNextF_tr x4_3_h.b1 v0_h.turns (nth y1_4 v0_15) y4_5 hy4_5)) ?_
  rintro _ _ ⟨rfl, rfl⟩
  refine sp 19 (.tuple #[iv y4_5.1, iv y4_5.2.1, .bool y4_5.2.2.1]) ?_
  refine sp 26 (iv y4_5.1) ?_
  refine sp 27 (iv y4_5.2.1) ?_
  refine sp 28 (.bool y4_5.2.2.1) ?_
  refine sp 6 (iv y4_5.1) ?_
  refine sp 7 (iv y4_5.2.1) ?_
  refine sp 8 (.bool y4_5.2.2.1) ?_
  refine ops_end ?_
  refine ae [(0, .pointer (some ⟨h, 0, none⟩)), (2, .pointer (some ⟨b0_0, 0, none⟩)), (5, iv (nth y1_4 v0_15)), (6, iv y4_5.1), (7, iv y4_5.2.1), (8, .bool y4_5.2.2.1), (13, .slice a1_4_00 (List.length y1_4) c1_4_00), (14, iv (((List.length y1_4) : Nat) : Int)), (15, iv v0_15)] ?_
  refine at_then_normal ?_
  refine At.conv (Γ' := (HomeXA h x4_3_h ({ dir := v0_h.dir, turns := y4_5.2.2.2, c := v0_h.c, node := v0_h.node } : HomeS)) :: (ImmI x4_3_h.a9 v0_h.c.init) :: (IntsA a1_4_00 c1_4_00 y1_4) :: (Asn.own b0_0 (.cells #[iv (0), iv (0), iv (0), iv (0), iv (0), iv (0), iv (0), .bool false, .slice none 0 0] 32 (0, 0))) :: Γ) (fun w hw => HomeXA.close (x := x4_3_h) (t := ({ dir := v0_h.dir, turns := y4_5.2.2.2, c := v0_h.c, node := v0_h.node } : HomeS)) (Sat.less (.take (.there (.there (.there .here))) (.take (.there (.there (.there .here))) (.take (.there (.there .here)) (.take .here (.take .here (.take .here (.take .here .refl))))))) (ImmR.dup (Sat.less (.take (.there (.there (.there .here))) (.take .here (.take .here (.take .here (.take .here (.take .here .refl)))))) hw)))) ?_
  refine At.conv (Γ' := (HomeA h ({ dir := v0_h.dir, turns := y4_5.2.2.2, c := v0_h.c, node := v0_h.node } : HomeS)) :: (ImmI x4_3_h.a9 v0_h.c.init) :: (IntsA a1_4_00 c1_4_00 y1_4) :: (Asn.own b0_0 (.cells #[iv (0), iv (0), iv (0), iv (0), iv (0), iv (0), iv (0), .bool false, .slice none 0 0] 32 (0, 0))) :: Γ) (fun w hw => HomeXA.shut (hw.pull .here)) ?_
  refine aq (x := C16 [1,0,1,0,0,1,1,0,0,1,1,0]) (y := C16 [1,0,1,0,0,1,1,0,0,1,1,1]) ?_
  refine ar (id := 5) 1 ?_
  refine sp 29 (.bool y4_5.2.2.1) ?_
  refine ops_end ?_
  refine ae [(0, .pointer (some ⟨h, 0, none⟩)), (2, .pointer (some ⟨b0_0, 0, none⟩)), (5, iv (nth y1_4 v0_15)), (6, iv y4_5.1), (7, iv y4_5.2.1), (13, .slice a1_4_00 (List.length y1_4) c1_4_00), (14, iv (((List.length y1_4) : Nat) : Int)), (15, iv v0_15), (29, .bool y4_5.2.2.1)] ?_
  refine at_then_normal ?_
  rcases Bool.eq_false_or_eq_true (y4_5.2.2.1) with h2 | h2
  ·replace H := bifT H h2
   refine at_true (t := y4_5.2.2.1) (x := C16 [1,0,1,0,0,1,1,0,0,1,1,1,0]) (y := C16 [1,0,1,0,0,1,1,0,0,1,1,1,1]) (o := .tmp 29) kf kf kf h2 ?_
   refine aq (x := C16 [1,0,1,0,0,1,1,0,0,1,1,1,0,0]) (y := C16 [1,0,1,0,0,1,1,0,0,1,1,1,0,1]) ?_
   refine ar (id := 6) 7 ?_
   refine sp 30 (.pointer (some ⟨h, 0, none⟩)) ?_
   refine sp 31 (iv (nth y1_4 v0_15)) ?_
   refine sp 32 (iv y4_5.1) ?_
   refine sp 33 (iv y4_5.2.1) ?_
   obtain ⟨y6_4, hy6_4, H⟩ := bindE H
   refine s_call 34 30 #[.pointer (some ⟨h, 0, none⟩), iv (nth y1_4 v0_15), iv y4_5.1, iv y4_5.2.1] kf kf (fun _ => kf) (HGrantedF_tr h ({ dir := v0_h.dir, turns := y4_5.2.2.2, c := v0_h.c, node := v0_h.node } : HomeS) (nth y1_4 v0_15) y4_5.1 y4_5.2.1 y6_4 hy6_4) ?_
   rintro _ _ ⟨a6_4_00, c6_4_00, rfl, rfl⟩
   refine s_do kf kf (st_store (off := 0) (vs := [iv y6_4.kind, iv y6_4.src, iv y6_4.dst, iv y6_4.id, iv y6_4.line, iv y6_4.ptr, iv y6_4.state, .bool y6_4.flag, .slice a6_4_00 (List.length y6_4.data) c6_4_00]) (c' := #[iv y6_4.kind, iv y6_4.src, iv y6_4.dst, iv y6_4.id, iv y6_4.line, iv y6_4.ptr, iv y6_4.state, .bool y6_4.flag, .slice a6_4_00 (List.length y6_4.data) c6_4_00]) (fun _ => kf) (.there (.there (.there (.there .here)))) kf kf kf) ?_
   rintro _ _ ⟨rfl, rfl⟩
   refine sp 3 (.bool true) ?_
   refine ops_end ?_
   refine ae [(2, .pointer (some ⟨b0_0, 0, none⟩)), (3, .bool true)] ?_
   refine at_then_normal ?_
   refine at_ret kf ?_
   refine at_in_ret ?_
   refine at_then_ret ?_
   refine at_then_ret ?_
   refine at_in_ret ?_
   refine at_then_ret ?_
   obtain rfl := someE H
   refine at_backR [.agg #[iv y6_4.kind, iv y6_4.src, iv y6_4.dst, iv y6_4.id, iv y6_4.line, iv y6_4.ptr, iv y6_4.state, .bool y6_4.flag, .slice a6_4_00 (List.length y6_4.data) c6_4_00], .bool true] ((IntsA a6_4_00 c6_4_00 y6_4.data) :: (HomeA h ({ dir := v0_h.dir, turns := y4_5.2.2.2, c := v0_h.c, node := v0_h.node } : HomeS)) :: Γ) (rs := [.cell 2 32, .tmp 3]) kf (.cons (.cell kf (retN (off := 0) (vs := [iv y6_4.kind, iv y6_4.src, iv y6_4.dst, iv y6_4.id, iv y6_4.line, iv y6_4.ptr, iv y6_4.state, .bool y6_4.flag, .slice a6_4_00 (List.length y6_4.data) c6_4_00]) 9 (fun _ => kf) (holds_own .here) rfl (by exact ⟨rfl, rfl, rfl, rfl, rfl, rfl, rfl, rfl, rfl, trivial⟩))) (.cons (.tmp kf) .nil)) (fun w hw => (Sat.less (.take (.there .here) (.take (.there .here) (.drop .here (.drop .here (.drop .here .refl))))) hw)) ?_
   exact ⟨a6_4_00, c6_4_00, rfl, rfl⟩
  ·replace H := bifF H h2
   refine at_false (t := y4_5.2.2.1) (x := C16 [1,0,1,0,0,1,1,0,0,1,1,1,0]) (y := C16 [1,0,1,0,0,1,1,0,0,1,1,1,1]) (o := .tmp 29) kf kf kf h2 ?_
   refine at_skip kf ?_
   refine at_in_normal ?_
   refine at_then_normal ?_
   refine ar (id := 7) 2 ?_
   obtain ⟨hc7_0_0, H⟩ := chkE H
   refine sr 35 (iv (v0_15 + (1 : Int))) (run_eq (v := iv (IntKind.i64.wrap (v0_15 + (1 : Int)))) (fun _ => kf) (by rw [inR.wrap hc7_0_0])) ?_
   refine sp 15 (iv (v0_15 + (1 : Int))) ?_
   refine ops_end ?_
   refine ae [(0, .pointer (some ⟨h, 0, none⟩)), (2, .pointer (some ⟨b0_0, 0, none⟩)), (13, .slice a1_4_00 (List.length y1_4) c1_4_00), (14, iv (((List.length y1_4) : Nat) : Int)), (15, iv (v0_15 + (1 : Int)))] ?_
   refine at_round_normal ?_
   exact at_roundR fuel1 [(0, .pointer (some ⟨h, 0, none⟩)), (2, .pointer (some ⟨b0_0, 0, none⟩)), (13, .slice a1_4_00 (List.length y1_4) c1_4_00), (14, iv (((List.length y1_4) : Nat) : Int)), (15, iv (v0_15 + (1 : Int)))] ((HomeA h ({ dir := v0_h.dir, turns := y4_5.2.2.2, c := v0_h.c, node := v0_h.node } : HomeS)) :: (IntsA a1_4_00 c1_4_00 y1_4) :: (Asn.own b0_0 (.cells #[iv (0), iv (0), iv (0), iv (0), iv (0), iv (0), iv (0), .bool false, .slice none 0 0] 32 (0, 0))) :: Γ) (Nat.lt_succ_self _) ⟨kf, kf, kf, kf, kf, trivial⟩ (fun w hw => (Sat.less (.take .here (.take (.there .here) (.take (.there .here) (.drop .here .refl)))) hw)) ⟨fuel1, v0_15 + (1 : Int), ({ dir := v0_h.dir, turns := y4_5.2.2.2, c := v0_h.c, node := v0_h.node } : HomeS), H, rfl, rfl, rfl⟩
 ·replace H := bifF H h1
  refine at_false (t := decide (v0_15 < (((List.length y1_4) : Nat) : Int))) (x := C16 [1,0,1,0,0,1,0,0]) (y := C16 [1,0,1,0,0,1,0,1]) (o := .tmp 16) kf kf kf h1 ?_
  refine at_exit (i := 0) kf ?_
  refine at_then_exit ?_
  refine at_then_exit ?_
  rw [hgrantS_k0] at H
  refine ae [(0, .pointer (some ⟨h, 0, none⟩)), (2, .pointer (some ⟨b0_0, 0, none⟩)), (13, .slice a1_4_00 (List.length y1_4) c1_4_00), (14, iv (((List.length y1_4) : Nat) : Int)), (15, iv v0_15)] ?_
  refine At.conv (Γ' := (HomeA h v0_h) :: (IntsA a1_4_00 c1_4_00 y1_4) :: (Asn.own b0_0 (.cells #[iv (0), iv (0), iv (0), iv (0), iv (0), iv (0), iv (0), .bool false, .slice none 0 0] 32 (0, 0))) :: Γ) (fun w hw => (Sat.less (.take .here (.take .here (.take .here .refl))) hw)) ?_
  refine at_in_here ?_
  refine at_then_normal ?_
  refine aq (x := C16 [1,1,0]) (y := C16 [1,1,1]) ?_
  refine ar (id := 8) 3 ?_
  refine sp 36 (.agg #[iv (0), iv (0), iv (0), iv (0), iv (0), iv (0), iv (0), .bool false, .slice none 0 0]) ?_
  refine s_do kf kf (st_store (off := 0) (vs := [iv (0), iv (0), iv (0), iv (0), iv (0), iv (0), iv (0), .bool false, .slice none 0 0]) (c' := #[iv (0), iv (0), iv (0), iv (0), iv (0), iv (0), iv (0), .bool false, .slice none 0 0]) (fun _ => kf) (.there (.there .here)) kf kf kf) ?_
  rintro _ _ ⟨rfl, rfl⟩
  refine sp 3 (.bool false) ?_
  refine ops_end ?_
  refine ae [(2, .pointer (some ⟨b0_0, 0, none⟩)), (3, .bool false)] ?_
  refine at_then_normal ?_
  refine at_ret kf ?_
  obtain rfl := someE H
  refine at_backR [.agg #[iv (0), iv (0), iv (0), iv (0), iv (0), iv (0), iv (0), .bool false, .slice none 0 0], .bool false] ((IntsA none 0 ([] : List Int)) :: (HomeA h v0_h) :: Γ) (rs := [.cell 2 32, .tmp 3]) kf (.cons (.cell kf (retN (off := 0) (vs := [iv (0), iv (0), iv (0), iv (0), iv (0), iv (0), iv (0), .bool false, .slice none 0 0]) 9 (fun _ => kf) (holds_own .here) rfl (by exact ⟨rfl, rfl, rfl, rfl, rfl, rfl, rfl, rfl, rfl, trivial⟩))) (.cons (.tmp kf) .nil)) (fun w hw => (Sat.less (.take .here (.take (.there .here) (.drop .here (.drop .here .refl)))) (RowsA.none_mk (k := 1) (a := none) hw))) ?_
  exact ⟨none, 0, rfl, rfl⟩
end Go.Proofs.Ytcigheahollkcaa
